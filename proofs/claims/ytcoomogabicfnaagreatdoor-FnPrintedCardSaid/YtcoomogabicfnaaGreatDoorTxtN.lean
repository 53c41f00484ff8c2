/-
  Texts of numbers, read again; texts cut at a byte. Plain Lean.
-/
import Derived.Test.YtcoomogabicfnaaGreatDoorTxtI
import Derived.Lib.ParseIntBTie
import Derived.Lib.ItoaMem
import Derived.Lib.SplitLaws
import Derived.Lib.Join
namespace Go.Proofs.YtcoomogabicfnaaGreatDoor
open Go
set_option linter.unusedVariables false
set_option linter.unusedSimpArgs false
/-! Numbers as texts, read again. -/
def i64in (n : Int) : Prop := -9223372036854775808 ≤ n ∧ n ≤ 9223372036854775807
/-- What a text's digits spell, behind a number. -/
def stepD (a : Nat) (c : UInt8) : Nat := a * 10 + (c.toNat - 48)
def valD (acc : Nat) (l : List UInt8) : Nat := l.foldl stepD acc
theorem valD_nil (acc : Nat) : valD acc [] = acc := by unfold valD; rw [List.foldl_nil]
theorem valD_cons (acc : Nat) (c : UInt8) (l : List UInt8) : valD acc (c :: l) = valD (acc * 10 + (c.toNat - 48)) l := by unfold valD; rw [List.foldl_cons, stepD]
def isDig (c : UInt8) : Bool := decide (48 ≤ c.toNat) && decide (c.toNat ≤ 57)
theorem valD_snoc (l : List UInt8) (c : UInt8) : ∀ acc, valD acc (l ++ [c]) = valD acc l * 10 + (c.toNat - 48) := by
  induction l with
  | nil => intro acc; rw [List.nil_append, valD_cons, valD_nil, valD_nil]
  | cons d l ih => intro acc; rw [List.cons_append, valD_cons, valD_cons, ih]
theorem valD_ge (l : List UInt8) : ∀ acc, acc ≤ valD acc l := by
  induction l with
  | nil => intro acc; rw [valD_nil]; exact Nat.le_refl _
  | cons d l ih =>
    intro acc
    rw [valD_cons]
    have := ih (acc * 10 + (d.toNat - 48))
    omega
theorem valD_lt (l : List UInt8) (h : ∀ c ∈ l, isDig c = true) : ∀ acc, valD acc l < (acc + 1) * 10 ^ l.length := by
  induction l with
  | nil => intro acc; rw [valD_nil, List.length_nil, Nat.pow_zero]; omega
  | cons d l ih =>
    intro acc
    have hd := h d (by simp)
    simp only [isDig, Bool.and_eq_true, decide_eq_true_eq] at hd
    have h1 := ih (fun c hc => h c (by simp [hc])) (acc * 10 + (d.toNat - 48))
    have h2 : (acc * 10 + (d.toNat - 48) + 1) ≤ (acc + 1) * 10 := by omega
    have h3 : (acc * 10 + (d.toNat - 48) + 1) * 10 ^ l.length ≤ (acc + 1) * 10 * 10 ^ l.length := Nat.mul_le_mul_right _ h2
    rw [valD_cons, List.length_cons, Nat.pow_succ, Nat.mul_comm (10 ^ l.length) 10, ← Nat.mul_assoc]
    exact Nat.lt_of_lt_of_le h1 h3
theorem dig_of {k : Nat} (h : k < 10) : (UInt8.ofNat (48 + k)).toNat = 48 + k := by
  simp only [UInt8.toNat_ofNat']
  omega
theorem decDigits_dig : ∀ u : Nat, ∀ c ∈ Lib.decDigits u, isDig c = true := by
  intro u
  induction u using Nat.strongRecOn with
  | _ u ih =>
  intro c hc
  by_cases h : u < 10
  · rw [Lib.decDigits_one h, List.mem_singleton] at hc
    subst hc
    simp only [isDig, dig_of h, Bool.and_eq_true, decide_eq_true_eq]
    omega
  · rw [Lib.decDigits, dif_neg h, List.mem_append, List.mem_singleton] at hc
    rcases hc with hc | rfl
    · exact ih (u / 10) (by omega) c hc
    · have h2 : u % 10 < 10 := Nat.mod_lt _ (by omega)
      simp only [isDig, dig_of h2, Bool.and_eq_true, decide_eq_true_eq]
      omega
theorem valD_decDigits : ∀ u : Nat, valD 0 (Lib.decDigits u) = u := by
  intro u
  induction u using Nat.strongRecOn with
  | _ u ih =>
  by_cases h : u < 10
  · rw [Lib.decDigits_one h]
    simp only [valD_cons, valD_nil, dig_of h]
    omega
  · rw [Lib.decDigits, dif_neg h, valD_snoc, ih (u / 10) (by omega), dig_of (Nat.mod_lt _ (by omega))]
    omega
theorem decDigits_ne (u : Nat) : Lib.decDigits u ≠ [] := by
  intro h
  have := Lib.decDigits_length u
  rw [h, List.length_nil] at this
  have h2 := Lib.nDigits_pos u
  rw [← this] at h2
  exact absurd h2 (by decide)
theorem parse10_digits (l : List UInt8) (h : ∀ c ∈ l, isDig c = true) : ∀ acc, acc < 18446744073709551616 → valD acc l < 18446744073709551616 → Lib.parseUint10 acc l = .ok (valD acc l) := by
  induction l with
  | nil => intro acc _ _; rw [valD_nil]; rfl
  | cons d l ih =>
    intro acc ha hv
    have hd := h d (by simp)
    simp only [isDig, Bool.and_eq_true, decide_eq_true_eq] at hd
    rw [valD_cons] at hv ⊢
    have h1 : acc * 10 + (d.toNat - 48) < 18446744073709551616 := Nat.lt_of_le_of_lt (valD_ge l _) hv
    simp only [Lib.parseUint10]
    rw [if_pos hd, if_neg (by omega), if_neg (by omega), ih (fun c hc => h c (by simp [hc])) _ h1 hv]
theorem parse10_other (l : List UInt8) : ∀ acc, (∃ c ∈ l, isDig c = false) → ∀ u, Lib.parseUint10 acc l ≠ .ok u := by
  induction l with
  | nil => intro acc h; obtain ⟨c, hc, _⟩ := h; cases hc
  | cons d l ih =>
    intro acc ⟨c, hc, hn⟩ u hu
    simp only [Lib.parseUint10] at hu
    by_cases hd : 48 ≤ d.toNat ∧ d.toNat ≤ 57
    · rw [if_pos hd] at hu
      rcases List.mem_cons.1 hc with rfl | hc
      · simp [isDig, hd] at hn
      · split at hu
        · cases hu
        · split at hu
          · cases hu
          · exact ih _ ⟨c, hc, hn⟩ u hu
    · rw [if_neg hd] at hu
      cases hu
/-- A number's text is read as that number. -/
theorem parse_itoa {n : Int} (h : i64in n) : Lib.parseIntB 64 (Lib.itoa n) = .ok n := by
  rw [Lib.parseIntB_64]
  obtain ⟨h0, h1⟩ := h
  by_cases hn : n < 0
  · obtain ⟨u, hu⟩ : ∃ u : Nat, n = -(u : Int) := ⟨n.natAbs, by omega⟩
    subst hu
    rw [Lib.itoa_neg u (by omega)]
    have e : Lib.parseMag (Lib.decDigits u) = .ok u := by
      unfold Lib.parseMag
      rw [if_neg (decDigits_ne u), parse10_digits _ (decDigits_dig u) 0 (by omega) (by rw [valD_decDigits]; omega), valD_decDigits]
    have e45 : (45 : UInt8).toNat = 45 := rfl
    simp only [Lib.atoiAll, e45, or_true, if_true, e]
    simp
    omega
  · obtain ⟨u, rfl⟩ : ∃ u : Nat, n = (u : Int) := ⟨n.toNat, by omega⟩
    rw [Lib.itoa_nonneg]
    have e : Lib.parseMag (Lib.decDigits u) = .ok u := by
      unfold Lib.parseMag
      rw [if_neg (decDigits_ne u), parse10_digits _ (decDigits_dig u) 0 (by omega) (by rw [valD_decDigits]; omega), valD_decDigits]
    cases hd : Lib.decDigits u with
    | nil => exact absurd hd (decDigits_ne u)
    | cons c r =>
      have hc := decDigits_dig u c (by rw [hd]; simp)
      simp only [isDig, Bool.and_eq_true, decide_eq_true_eq] at hc
      have h43 : c.toNat ≠ 43 := by omega
      have h45 : c.toNat ≠ 45 := by omega
      rw [hd] at e
      simp only [Lib.atoiAll, h43, h45, or_self, if_false, e]
      simp
      omega
theorem decB_data (n : Int) : (decB n).data.toList = Lib.itoa n := by simp [decB]
theorem decB_inj {a b : Int} (ha : i64in a) (hb : i64in b) (h : decB a = decB b) : a = b := by
  have h1 := parse_itoa ha
  rw [← decB_data, h, decB_data, parse_itoa hb] at h1
  injection h1 with h1
  exact h1.symm
/-- A number whose text this is. -/
def numF (s : ByteArray) : Option Int := match Lib.parseIntB 64 s.data.toList with | .ok v => if decB v = s then some v else none | _ => none
theorem numF_iff (s : ByteArray) (v : Int) : numF s = some v ↔ i64in v ∧ s = decB v := by
  unfold numF
  constructor
  · intro h
    split at h
    · rename_i u hu
      split at h
      · rename_i he
        injection h with h
        subst h
        have := Lib.parseIntB_bounds hu
        have e : (2 : Nat) ^ (64 - 1) = 9223372036854775808 := by decide
        rw [e] at this
        exact ⟨⟨by omega, by omega⟩, he.symm⟩
      · cases h
    · cases h
  · rintro ⟨h, rfl⟩
    rw [decB_data, parse_itoa h]
    simp
theorem numF_dec {v : Int} (h : i64in v) : numF (decB v) = some v := (numF_iff _ _).2 ⟨h, rfl⟩
/-- The number of at most ten digits whose text this is. -/
def digF (s : ByteArray) : Option Int := if s.size ≤ 10 then (numF s).filter (fun v => decide (0 ≤ v)) else none
theorem digF_iff (s : ByteArray) (v : Int) : digF s = some v ↔ s.size ≤ 10 ∧ 0 ≤ v ∧ i64in v ∧ s = decB v := by
  unfold digF
  by_cases h : s.size ≤ 10
  · rw [if_pos h, Option.filter_eq_some_iff, numF_iff]
    simp only [decide_eq_true_eq]
    constructor
    · rintro ⟨⟨a, a'⟩, b⟩
      exact ⟨h, b, a, a'⟩
    · rintro ⟨_, b, a, a'⟩
      exact ⟨⟨a, a'⟩, b⟩
  · rw [if_neg h]
    exact ⟨fun h => (by cases h), fun ⟨a, _⟩ => absurd a h⟩
theorem bsize (b : ByteArray) : b.size = b.data.toList.length := by rw [Array.length_toList]; rfl
theorem bext {a b : ByteArray} (h : a.data.toList = b.data.toList) : a = b := by
  apply ByteArray.ext
  exact Array.toList_inj.1 h
theorem decB_nat (u : Nat) : (decB (u : Int)).data.toList = Lib.decDigits u := by rw [decB_data, Lib.itoa_nonneg]
theorem digF_lt {s : ByteArray} {v : Int} (h : digF s = some v) : 0 ≤ v ∧ v ≤ 9999999999 := by
  obtain ⟨h1, h2, h3, rfl⟩ := (digF_iff _ _).1 h
  obtain ⟨u, rfl⟩ : ∃ u : Nat, v = (u : Int) := ⟨v.toNat, by omega⟩
  rw [bsize, decB_nat] at h1
  have := valD_lt _ (decDigits_dig u) 0
  rw [valD_decDigits] at this
  have h4 : 10 ^ (Lib.decDigits u).length ≤ 10 ^ 10 := Nat.pow_le_pow_right (by omega) h1
  omega
/-- Digits alone: the value is the number, if it is written so. -/
theorem digF_digits {s : ByteArray} (h1 : s.size ≤ 10) (hd : ∀ c ∈ s.data.toList, isDig c = true) : digF s = if decB (valD 0 s.data.toList : Nat) = s then some (valD 0 s.data.toList : Int) else none := by
  have hv := valD_lt _ hd 0
  have h2 := h1
  rw [bsize] at h2
  have h4 : 10 ^ s.data.toList.length ≤ 10 ^ 10 := Nat.pow_le_pow_right (by omega) h2
  split
  · rename_i h
    exact (digF_iff _ _).2 ⟨h1, by omega, ⟨by omega, by omega⟩, h.symm⟩
  · rename_i h
    cases hf : digF s with
    | none => rfl
    | some v =>
      obtain ⟨_, a, b, c⟩ := (digF_iff _ _).1 hf
      obtain ⟨u, rfl⟩ : ∃ u : Nat, v = (u : Int) := ⟨v.toNat, by omega⟩
      have e : valD 0 s.data.toList = u := by rw [c, decB_nat, valD_decDigits]
      rw [e] at h
      exact absurd c.symm h
theorem digF_other {s : ByteArray} (h : ∃ c ∈ s.data.toList, isDig c = false) : digF s = none := by
  cases hf : digF s with
  | none => rfl
  | some v =>
    obtain ⟨_, a, b, c⟩ := (digF_iff _ _).1 hf
    obtain ⟨u, rfl⟩ : ∃ u : Nat, v = (u : Int) := ⟨v.toNat, by omega⟩
    obtain ⟨x, hx, hn⟩ := h
    rw [c, decB_nat] at hx
    rw [decDigits_dig u x hx] at hn
    cases hn
theorem digF_nil {s : ByteArray} (h : s.size = 0) : digF s = none := by
  cases hf : digF s with
  | none => rfl
  | some v =>
    obtain ⟨_, a, b, c⟩ := (digF_iff _ _).1 hf
    obtain ⟨u, rfl⟩ : ∃ u : Nat, v = (u : Int) := ⟨v.toNat, by omega⟩
    rw [bsize, c, decB_nat] at h
    exact absurd (List.eq_nil_of_length_eq_zero h) (decDigits_ne u)
/-- A number of at most ten digits, perhaps with a minus sign. -/
def sgnF (s : ByteArray) : Option Int := (numF s).filter (fun v => decide (-9999999999 ≤ v) && decide (v ≤ 9999999999))
theorem sgnF_iff (s : ByteArray) (v : Int) : sgnF s = some v ↔ -9999999999 ≤ v ∧ v ≤ 9999999999 ∧ s = decB v := by
  unfold sgnF
  rw [Option.filter_eq_some_iff, numF_iff]
  simp only [Bool.and_eq_true, decide_eq_true_eq]
  constructor
  · rintro ⟨⟨_, a⟩, b, c⟩
    exact ⟨b, c, a⟩
  · rintro ⟨a, b, c⟩
    exact ⟨⟨⟨by omega, by omega⟩, c⟩, a, b⟩
theorem nDig10 {u : Nat} (h : u ≤ 9999999999) : (Lib.decDigits u).length ≤ 10 := by
  rw [Lib.decDigits_length]
  rcases Nat.eq_zero_or_pos u with rfl | h0
  · rw [Lib.nDigits_small (by omega)]; decide
  rcases Nat.lt_or_ge (Lib.nDigits u) 11 with h1 | h1
  · omega
  · obtain ⟨k, hk⟩ : ∃ k, Lib.nDigits u = k + 1 := ⟨Lib.nDigits u - 1, by omega⟩
    -- a number with so many digits is too large
    have key : ∀ (n u : Nat), Lib.nDigits u = n + 1 → 1 ≤ n → 10 ^ n ≤ u := by
      intro n
      induction n with
      | zero => intro u _ h; omega
      | succ n ih =>
        intro u hu _
        by_cases hs : u < 10
        · rw [Lib.nDigits_small hs] at hu
          omega
        · rw [Lib.nDigits_big hs] at hu
          rcases Nat.eq_zero_or_pos n with rfl | hn
          · simp; omega
          · have := ih (u / 10) (by omega) hn
            rw [Nat.pow_succ]
            omega
    have := key k u hk (by omega)
    have h2 : 10 ^ 10 ≤ 10 ^ k := Nat.pow_le_pow_right (by omega) (by omega)
    omega
theorem sgnF_plain {s : ByteArray} (h : s.data.toList.head? ≠ some 45) : sgnF s = digF s := by
  apply Option.ext
  intro v
  rw [sgnF_iff, digF_iff]
  constructor
  · rintro ⟨h1, h2, rfl⟩
    have h0 : 0 ≤ v := by
      rcases Int.lt_or_le v 0 with hn | hn
      · obtain ⟨u, hu⟩ : ∃ u : Nat, v = -(u : Int) := ⟨v.natAbs, by omega⟩
        subst hu
        rw [decB_data, Lib.itoa_neg u (by omega)] at h
        exact absurd rfl h
      · exact hn
    obtain ⟨u, rfl⟩ : ∃ u : Nat, v = (u : Int) := ⟨v.toNat, by omega⟩
    refine ⟨?_, h0, ⟨by omega, by omega⟩, rfl⟩
    rw [bsize, decB_nat]
    exact nDig10 (by omega)
  · rintro ⟨h1, h2, h3, rfl⟩
    have := digF_lt ((digF_iff _ _).2 ⟨h1, h2, h3, rfl⟩)
    exact ⟨by omega, this.2, rfl⟩
theorem sgnF_minus {s t : ByteArray} (h : s.data.toList = 45 :: t.data.toList) : sgnF s = ((digF t).filter (fun v => decide (0 < v))).map (fun v => -v) := by
  apply Option.ext
  intro v
  rw [sgnF_iff]
  simp only [Option.map_eq_some_iff, Option.filter_eq_some_iff, decide_eq_true_eq]
  constructor
  · rintro ⟨h1, h2, rfl⟩
    rcases Int.lt_or_le v 0 with hn | hn
    · obtain ⟨u, hu⟩ : ∃ u : Nat, v = -(u : Int) := ⟨v.natAbs, by omega⟩
      subst hu
      rw [decB_data, Lib.itoa_neg u (by omega)] at h
      injection h with _ h
      have ht : t = decB (u : Int) := bext (by rw [decB_nat, h])
      refine ⟨(u : Int), ⟨(digF_iff _ _).2 ⟨?_, by omega, ⟨by omega, by omega⟩, ht⟩, by omega⟩, rfl⟩
      rw [ht, bsize, decB_nat]
      exact nDig10 (by omega)
    · obtain ⟨u, rfl⟩ : ∃ u : Nat, v = (u : Int) := ⟨v.toNat, by omega⟩
      rw [decB_nat] at h
      have := decDigits_dig u 45 (by rw [h]; simp)
      cases this
  · rintro ⟨u, ⟨hf, hp⟩, rfl⟩
    have hl := digF_lt hf
    obtain ⟨h1, h2, h3, ht⟩ := (digF_iff _ _).1 hf
    obtain ⟨k, rfl⟩ : ∃ k : Nat, u = (k : Int) := ⟨u.toNat, by omega⟩
    refine ⟨by omega, by omega, bext ?_⟩
    rw [h, decB_data, Lib.itoa_neg k (by omega), ht, decB_nat]
theorem sgnF_lt {s : ByteArray} {v : Int} (h : sgnF s = some v) : -9999999999 ≤ v ∧ v ≤ 9999999999 := ⟨((sgnF_iff _ _).1 h).1, ((sgnF_iff _ _).1 h).2.1⟩
/-- Of numbers in a small range, all three readings are the same. -/
theorem sgn_num {s : ByteArray} {v : Int} (h0 : -9999999999 ≤ v) (h1 : v ≤ 9999999999) : sgnF s = some v ↔ numF s = some v := by
  rw [sgnF_iff, numF_iff]
  exact ⟨fun ⟨_, _, c⟩ => ⟨⟨by omega, by omega⟩, c⟩, fun ⟨_, c⟩ => ⟨h0, h1, c⟩⟩
/-! Cut at a byte. -/
def cutAt (c : UInt8) : List UInt8 → List (List UInt8)
  | [] => [[]]
  | b :: l => if b = c then [] :: cutAt c l else match cutAt c l with
    | [] => [[b]]
    | h :: t => (b :: h) :: t
theorem cutAt_ne (c : UInt8) (l : List UInt8) : cutAt c l ≠ [] := by
  cases l with
  | nil => simp [cutAt]
  | cons b l =>
    simp only [cutAt]
    split
    · simp
    · split <;> simp
theorem cutAt_none {c : UInt8} : ∀ {l : List UInt8}, c ∉ l → cutAt c l = [l]
  | [], _ => rfl
  | b :: l, h => by
    simp only [cutAt]
    rw [if_neg (fun e => h (by simp [e])), cutAt_none (fun e => h (by simp [e]))]
theorem cutAt_hit {c : UInt8} : ∀ {a : List UInt8} (b : List UInt8), c ∉ a → cutAt c (a ++ c :: b) = a :: cutAt c b
  | [], b, _ => by simp [cutAt]
  | x :: a, b, h => by
    simp only [List.cons_append, cutAt]
    rw [if_neg (fun e => h (by simp [e])), cutAt_hit b (fun e => h (by simp [e]))]
/-- A text's words. -/
def splitF (c : UInt8) (s : ByteArray) : List ByteArray := (cutAt c s.data.toList).map fun l => ⟨l.toArray⟩
theorem splitF_ne (c : UInt8) (s : ByteArray) : splitF c s ≠ [] := by simp [splitF, cutAt_ne]
theorem cutAt_no (c : UInt8) : ∀ (l : List UInt8), ∀ x ∈ cutAt c l, c ∉ x
  | [], x, h => by simp [cutAt] at h; subst h; simp
  | b :: l, x, h => by
    simp only [cutAt] at h
    have ih := cutAt_no c l
    split at h
    · rcases List.mem_cons.1 h with rfl | h
      · simp
      · exact ih x h
    · rename_i hb
      split at h
      · simp at h
        subst h
        simpa using fun e => hb e.symm
      · rename_i a t ha
        rcases List.mem_cons.1 h with rfl | h
        · have := ih a (by rw [ha]; simp)
          simp only [List.mem_cons, not_or]
          exact ⟨fun e => hb e.symm, this⟩
        · exact ih x (by rw [ha]; simp [h])
theorem cutAt_len (c : UInt8) : ∀ (l : List UInt8), (cutAt c l).length = l.count c + 1
  | [] => rfl
  | b :: l => by
    have ih := cutAt_len c l
    simp only [cutAt]
    split
    · rename_i h
      subst h
      simp [ih]
    · rename_i h
      rw [List.count_cons_of_ne h]
      split
      · rename_i h2
        exact absurd h2 (cutAt_ne c l)
      · rename_i a t h2
        rw [h2] at ih
        simpa using ih
/-- The library's cut at all instances of one byte. -/
theorem splitK_one (c : UInt8) : ∀ (k : Nat) (l : List UInt8), l.count c ≤ k → Lib.splitK [c] 0 k l = cutAt c l
  | 0, l, h => by
    have : c ∉ l := fun hm => by have := List.count_pos_iff.2 hm; omega
    rw [cutAt_none this]
    rfl
  | k + 1, l, h => by
    unfold Lib.splitK
    rw [Lib.index_one]
    by_cases hc : Lib.indexByte l c = -1
    · rw [if_pos (beq_iff_eq.2 hc)]
      have hn := Lib.indexByte_none hc
      rw [cutAt_none]
      intro hm
      obtain ⟨i, hi⟩ := List.getElem?_of_mem hm
      exact hn i hi
    · rw [if_neg (fun e => hc (beq_iff_eq.1 e))]
      have hge := Lib.indexByte_ge l c
      obtain ⟨o, ho⟩ : ∃ o : Nat, Lib.indexByte l c = o := ⟨(Lib.indexByte l c).toNat, by omega⟩
      obtain ⟨h1, h2⟩ := Lib.indexByte_some ho
      rw [ho]
      simp only [Int.toNat_natCast, Nat.add_zero, List.length_singleton]
      have hol : o < l.length := (List.getElem?_eq_some_iff.1 h1).1
      have e : l = l.take o ++ c :: l.drop (o + 1) := by
        have h3 := (List.getElem?_eq_some_iff.1 h1).2
        rw [← h3, List.getElem_cons_drop, List.take_append_drop]
      have hno : c ∉ l.take o := by
        intro hm
        obtain ⟨i, hi⟩ := List.getElem?_of_mem hm
        rw [List.getElem?_take] at hi
        split at hi
        · rename_i hio
          exact h2 i hio hi
        · cases hi
      have hcnt : (l.drop (o + 1)).count c ≤ k := by
        have h4 := h
        rw [e, List.count_append, List.count_cons_self] at h4
        omega
      rw [splitK_one c k _ hcnt]
      conv => rhs; rw [e, cutAt_hit _ hno]

/-- The library's cut at all instances of one byte, of a text. -/
theorem splitB_one (c : UInt8) (s : ByteArray) : Lib.splitB ⟨#[c]⟩ 0 (Lib.countB s ⟨#[c]⟩) s = splitF c s := by
  have h1 := Lib.splitB_data ⟨#[c]⟩ 0 (Lib.countB s ⟨#[c]⟩) s
  have hc : s.data.toList.count c ≤ Lib.countB s ⟨#[c]⟩ := by
    show _ ≤ Lib.count s.data.toList (⟨#[c]⟩ : ByteArray).data.toList
    rw [show (⟨#[c]⟩ : ByteArray).data.toList = [c] from rfl, Lib.count_one]
    exact Nat.le_refl _
  rw [show (⟨#[c]⟩ : ByteArray).data.toList = [c] from rfl, splitK_one c _ _ hc] at h1
  unfold splitF
  rw [← h1, List.map_map]
  have e : ((fun l : List UInt8 => (⟨l.toArray⟩ : ByteArray)) ∘ fun x : ByteArray => x.data.toList) = id := by
    funext x
    exact bext (by simp)
  rw [e, List.map_id]
theorem itoa_dig {n : Int} (h : 0 ≤ n) : ∀ c ∈ Lib.itoa n, isDig c = true := by
  obtain ⟨u, rfl⟩ : ∃ u : Nat, n = (u : Int) := ⟨n.toNat, by omega⟩
  rw [Lib.itoa_nonneg]
  exact decDigits_dig u
theorem itoa_no {n : Int} {c : UInt8} (h : isDig c = false) (h2 : c ≠ 45) : c ∉ Lib.itoa n := by
  intro hm
  by_cases hn : n < 0
  · obtain ⟨u, hu⟩ : ∃ u : Nat, n = -(u : Int) := ⟨n.natAbs, by omega⟩
    subst hu
    rw [Lib.itoa_neg u (by omega)] at hm
    rcases List.mem_cons.1 hm with rfl | hm
    · exact h2 rfl
    · rw [decDigits_dig u c hm] at h
      cases h
  · rw [itoa_dig (by omega) c hm] at h
    cases h
theorem numF_at {s : ByteArray} {c : UInt8} (h : isDig c = false) (h2 : c ≠ 45) (hm : c ∈ s.data.toList) : numF s = none := by
  cases hf : numF s with
  | none => rfl
  | some v =>
    obtain ⟨_, rfl⟩ := (numF_iff _ _).1 hf
    rw [decB_data] at hm
    exact absurd hm (itoa_no h h2)
theorem itoa_ne (n : Int) : Lib.itoa n ≠ [] := by
  by_cases hn : n < 0
  · unfold Lib.itoa
    rw [if_pos hn]
    simp
  · unfold Lib.itoa
    rw [if_neg hn]
    exact decDigits_ne _
theorem numF_nil {s : ByteArray} (h : s.data.toList = []) : numF s = none := by
  cases hf : numF s with
  | none => rfl
  | some v =>
    obtain ⟨_, rfl⟩ := (numF_iff _ _).1 hf
    rw [decB_data] at h
    exact absurd h (itoa_ne v)
/-! A text is its words, joined. -/
theorem join_cutAt (c : UInt8) : ∀ l : List UInt8, Lib.join (cutAt c l) [c] = l
  | [] => rfl
  | b :: l => by
    have ih := join_cutAt c l
    simp only [cutAt]
    cases h : cutAt c l with
    | nil => exact absurd h (cutAt_ne c l)
    | cons x r =>
      rw [h] at ih
      split
      · rename_i hb
        subst hb
        rw [Lib.join_cons] at ih ⊢
        rw [show Lib.joinTail [b] (x :: r) = [b] ++ x ++ Lib.joinTail [b] r by simp [Lib.joinTail]]
        simp [← ih]
      · rw [Lib.join_cons] at ih ⊢
        simp [← ih]
theorem joinB_splitF (c : UInt8) (s : ByteArray) : joinB (splitF c s) ⟨#[c]⟩ = s := by
  apply bext
  unfold joinB splitF
  rw [List.map_map]
  have e : ((fun x : ByteArray => x.data.toList) ∘ fun l : List UInt8 => (⟨l.toArray⟩ : ByteArray)) = id := by
    funext x
    simp
  rw [e, List.map_id]
  simpa using join_cutAt c s.data.toList
/-- And joined words that do not hold the byte are cut again. -/
theorem cutAt_join (c : UInt8) : ∀ (x : List UInt8) (r : List (List UInt8)), c ∉ x → (∀ y ∈ r, c ∉ y) → cutAt c (Lib.join (x :: r) [c]) = x :: r
  | x, [], hx, _ => by rw [Lib.join_one, cutAt_none hx]
  | x, y :: r, hx, hr => by
    have ih := cutAt_join c y r (hr y (by simp)) (fun z hz => hr z (by simp [hz]))
    rw [Lib.join_cons] at ih ⊢
    rw [show Lib.joinTail [c] (y :: r) = c :: (y ++ Lib.joinTail [c] r) by simp [Lib.joinTail], cutAt_hit _ hx, ih]
theorem splitF_joinB (c : UInt8) {l : List ByteArray} (h0 : l ≠ []) (h : ∀ x ∈ l, c ∉ x.data.toList) : splitF c (joinB l ⟨#[c]⟩) = l := by
  cases l with
  | nil => exact absurd rfl h0
  | cons x r =>
    unfold splitF joinB
    have e := cutAt_join c x.data.toList (r.map (·.data.toList)) (h x (by simp)) (by
      intro y hy
      obtain ⟨z, hz, rfl⟩ := List.mem_map.1 hy
      exact h z (by simp [hz]))
    simp only [List.map_cons]
    rw [e]
    simp only [List.map_cons, List.map_map]
    congr 1
    have e2 : ((fun l : List UInt8 => (⟨l.toArray⟩ : ByteArray)) ∘ fun x : ByteArray => x.data.toList) = id := by
      funext x
      exact bext (by simp)
    rw [e2, List.map_id]

end Go.Proofs.YtcoomogabicfnaaGreatDoor
