/-
  Marks of texts: the laws' markText, markStringS, heldStringS.
-/
import Derived.Test.YtcoomogabicfnaaDoorTxt
import Derived.Test.YtcoomogabicfnaaDoorEqs
namespace Go.Proofs.YtcoomogabicfnaaDoor
open Go.RowKit
set_option linter.unusedVariables false
set_option linter.unusedSimpArgs false
def markString (k : Int) (i : Nat) : ByteArray := ⟨#[109]⟩ ++ decB ((k + i).toNat : Nat)
def marksString (k : Int) (n : Nat) : List ByteArray := (List.range n).map (markString k)
theorem marksString_len (k : Int) (n : Nat) : (marksString k n).length = n := by simp [marksString]
theorem marksString_get (k : Int) (j n : Nat) (h : j < (marksString k n).length) : (marksString k n)[j] = markString k j := by simp [marksString]
theorem marksString_step (k : Int) (j : Nat) (l : List ByteArray) (h : j < l.length) : (marksString k j ++ l.drop j).set j (markString k j) = marksString k (j + 1) ++ l.drop (j + 1) := by
  rw [List.set_append_right _ _ (by simp [marksString_len])]
  have e : j - (marksString k j).length = 0 := by simp [marksString_len]
  rw [e, List.drop_eq_getElem_cons h, List.set_cons_zero]
  simp [marksString, List.range_succ]
/-- What is laid ahead of the digits that are there. -/
def tailD (q : Nat) (out : ByteArray) : ByteArray := if q = 0 then out else decB q ++ out
theorem tailD_zero (out : ByteArray) : tailD 0 out = out := if_pos rfl
theorem tailD_step {q : Nat} (h : 0 < q) (out : ByteArray) : tailD (q / 10) (strOfNums [48 + ((q % 10 : Nat) : Int)] ++ out) = tailD q out := by
  unfold tailD
  rw [if_neg (by omega : ¬ q = 0)]
  by_cases hq : q < 10
  · rw [if_pos (by omega : q / 10 = 0), decB_small hq, Nat.mod_eq_of_lt hq]
  · rw [if_neg (by omega : ¬ q / 10 = 0), decB_step hq, ByteArray.append_assoc]
set_option maxHeartbeats 400000 in
set_option maxRecDepth 100000 in
theorem laws_markText (k : Nat) (w : World) (hk : k ≤ 100000000) :
    Calls Tryd.prog 29 #[.int .i64 k] w fun e w' => e = .returned (.string (⟨#[109]⟩ ++ decB (k : Nat))) ∧ Below w.heap.size w w' := by
  have hcv := conv_one
  by_cases h0 : k = 0
  · subst h0
    have hE : Hid ((⟨#[109]⟩ : ByteArray) ++ decB ((0 : Nat) : Int) = ⟨#[109, 48]⟩) := by show _ = _; rw [decB_small (by omega : 0 < 10)]; decide +kernel
    rw [hE.out]
    go_enter Tryd.func29, Tryd.ntmps29
    go_wp2
    go_ret
    exact ⟨rfl, (by repeat (first | exact Below.refl _ _ | assumption | refine Below.drew ?_ | refine Below.alloc ?_ (by simp <;> omega) _ | refine Below.setCell ?_ (by simp <;> omega) _))⟩
  · have hk0 : ¬ (k : Int) ≤ 0 := by omega
    obtain ⟨T, hT⟩ : ∃ T, decB (k : Nat) = T := ⟨_, rfl⟩
    have hT0 : Hid (tailD k ⟨#[]⟩ = T) := by show _ = _; rw [← hT]; unfold tailD; rw [if_neg h0]; exact ByteArray.append_empty
    rw [hT]
    clear hT h0
    go_enter Tryd.func29, Tryd.ntmps29
    go_wp2
    go_loopw [0, 3] (fun kv o wr => ∃ (q : Nat) (out : ByteArray), kv = .int .i64 q ∧ o = .string out ∧ Hid (tailD q out = T) ∧ out.size + q ≤ k ∧ Below w.heap.size w wr) (fun kv _ _ => (intOf kv).toNat)
    case atStart => exact ⟨k, ⟨#[]⟩, rfl, rfl, hT0, (by show 0 + k ≤ k; omega), Below.refl _ _⟩
    case round =>
      obtain ⟨q, out, rfl, rfl, hA, hs, hB⟩ := hrel
      by_cases hq : 0 < q
      · have hst : Hid (tailD (q / 10) (strOfNums [48 + ((q % 10 : Nat) : Int)] ++ out) = T) := (tailD_step hq out).trans hA.out
        have e1 : (q : Int).tdiv 10 = ((q / 10 : Nat) : Int) := (Int.ofNat_tdiv q 10).symm
        have e2 : (q : Int).tmod 10 = ((q % 10 : Nat) : Int) := (Int.ofNat_tmod q 10).symm
        have hr : q % 10 < 10 := Nat.mod_lt _ (by omega)
        have hqd : q / 10 < q := by omega
        have hq1 : (0 : Int) < (q : Int) := by omega
        clear hA
        generalize q / 10 = p at *
        generalize q % 10 = r at *
        have wq : IntKind.i64.wrap (p : Int) = (p : Int) := IntWalk.i64_in _ (by omega)
        have wr' : IntKind.i64.wrap (r : Int) = (r : Int) := IntWalk.i64_in _ (by omega)
        have ws : IntKind.i64.wrap (48 + (r : Int)) = 48 + (r : Int) := IntWalk.i64_in _ (by omega)
        have wu : IntKind.u8.wrap (48 + (r : Int)) = 48 + (r : Int) := by simp [IntKind.wrap, IntKind.bits, IntKind.signed]; omega
        have hsz : ¬ 9223372036854775807 < (strOfNums [48 + (r : Int)]).size + out.size := by rw [strOfNums_size]; simp; omega
        have hs2 : (strOfNums [48 + (r : Int)] ++ out).size + p ≤ k := by rw [ByteArray.size_append, strOfNums_size]; simp; omega
        go_wp2
        go_roundw
        case rel => exact ⟨p, _, rfl, rfl, hst, hs2, hB.alloc hB.size _⟩
        case measure => simp [intOf]; omega
      · have hq0 : ¬ (0 : Int) < (q : Int) := by omega
        have hE : Hid (out = T) := by show _ = _; rw [← hA.out]; unfold tailD; rw [if_pos (by omega)]
        have hsz : ¬ 9223372036854775807 < 1 + out.size := by omega
        go_wp2
        go_ret
        exact ⟨by show Ending.returned (Value.string (_ ++ out)) = _; rw [hE.out], hB⟩
set_option maxHeartbeats 400000 in
set_option maxRecDepth 100000 in
theorem laws_markStringS (v : Value) (l : List ByteArray) (k : Int) (base : Nat) (w : World) (h0 : Own strCell 1 9 w base v l) (h1 : l.length ≤ 1048576) (h2 : 0 ≤ k) (h3 : k ≤ 16777216) :
    Calls Tryd.prog 10 #[v, .int .i64 k] w fun e w' => e = .returned (.int .i64 (k + l.length)) ∧ Own strCell 1 9 w' base v (marksString k l.length) ∧ w.grownBy w' v.ownBlock := by
  obtain ⟨A, c, rfl⟩ := h0.shape
  go_enter Tryd.func10, Tryd.ntmps10
  go_wp2
  go_loopw [1, 5] (fun q i wr => ∃ j : Nat, j ≤ l.length ∧ i = .int .i64 j ∧ q = .int .i64 (k + j) ∧ Own strCell 1 9 wr base (.slice A l.length c) (marksString k j ++ l.drop j) ∧ w.grownBy wr (Value.slice A l.length c).ownBlock) (fun _ i _ => l.length - (intOf i).toNat)
  case atStart => exact ⟨0, Nat.zero_le _, rfl, by simp, by simpa [marksString] using h0, World.grownBy.refl _ _⟩
  case round =>
    obtain ⟨j, hj, rfl, rfl, hO, hG⟩ := hrel
    by_cases hlt : j < l.length
    · have hlen : j < (marksString k j ++ l.drop j).length := by simp [marksString_len]; omega
      obtain ⟨g, c', hA, hb, hg, hfz, hcell⟩ := hO.at_ strCell_len j hlen
      obtain rfl : A = some ⟨g, 0, none⟩ := by injection hA
      clear hA hcell hfz
      obtain ⟨K, hK⟩ : ∃ K : Nat, (k + j) = (K : Int) := ⟨(k + j).toNat, by omega⟩
      have hmk : Hid (markString k j = ⟨#[109]⟩ ++ decB (K : Nat)) := by show _ = _; unfold markString; rw [hK]; rfl
      have hKb : K ≤ 100000000 := by omega
      have w1' : IntKind.i64.wrap (k + (j : Int) + 1) = k + (j : Int) + 1 := IntWalk.i64_in _ (by omega)
      go_wp2_with (go_at_call 29; rw [hK]; refine (laws_markText K _ hKb).mono ?_; rintro e w8 ⟨rfl, hB8⟩; have hO8 := hO.now hB8; obtain ⟨_, _, fz8, c8⟩ := own_strs_at hO8 j hlen; have f8 := fz8 j)
      refine ⟨⟨j + 1, hlt, rfl, ?_, ?_, only_setCell (p := ⟨g, j, none⟩) (grown_trans' hG ⟨hB8.os, hB8.tape, hB8.output, hB8.size, fun k hk _ => hB8.block k hk⟩) (.inl rfl) _⟩, by simp [intOf]; omega⟩
      · have e : (K : Int) + 1 = k + ((j + 1 : Nat) : Int) := by omega
        rw [e]
      · have h1 := hO8.setS j hlen (markString k j)
        rw [marksString_step _ _ _ hlt, hmk.out] at h1
        exact h1
    · obtain rfl : j = l.length := by omega
      go_wp2
      go_ret
      exact ⟨rfl, by simpa using hO, hG⟩
set_option maxHeartbeats 400000 in
set_option maxRecDepth 100000 in
theorem laws_heldStringS (v : Value) (n : Nat) (k : Int) (w : World) (h0 : Lst strCell 1 w w.heap.size v (marksString k n)) (h1 : n ≤ 1048576) (h2 : 0 ≤ k) (h3 : k ≤ 16777216) :
    Calls Tryd.prog 12 #[v, .int .i64 k] w fun e w' => e = .returned (.int .i64 (k + n)) ∧ Below w.heap.size w w' := by
  obtain ⟨A, c, rfl⟩ := h0.shape
  rw [marksString_len] at h0 ⊢
  go_enter Tryd.func12, Tryd.ntmps12
  go_wp2
  go_loopw [1, 5] (fun q i wr => ∃ j : Nat, j ≤ n ∧ i = .int .i64 j ∧ q = .int .i64 (k + j) ∧ Below w.heap.size w wr) (fun _ i _ => n - (intOf i).toNat)
  case atStart => exact ⟨0, Nat.zero_le _, rfl, by simp, Below.refl _ _⟩
  case round =>
    obtain ⟨j, hj, rfl, rfl, hB⟩ := hrel
    by_cases hlt : j < n
    · obtain ⟨b, off, rfl, hb, c0⟩ := strs_at h0 j (by rw [marksString_len]; exact hlt)
      rw [marksString_get] at c0
      obtain ⟨K, hKj⟩ : ∃ K : Nat, (k + j) = (K : Int) := ⟨(k + j).toNat, by omega⟩
      have hmk : markString k j = ⟨#[109]⟩ ++ decB (K : Nat) := by unfold markString; rw [hKj]; rfl
      have hKb : K ≤ 100000000 := by omega
      have hmt := laws_markText K
      obtain ⟨T, hT⟩ : ∃ T, (⟨#[109]⟩ : ByteArray) ++ decB (K : Nat) = T := ⟨_, rfl⟩
      rw [hT] at hmk
      simp only [hT] at hmt
      rw [hmk] at c0
      have hmt := Lib.hid hmt
      clear hmk hT
      replace c0 := cell_keep c0 hB
      have w1' : IntKind.i64.wrap (k + (j : Int) + 1) = k + (j : Int) + 1 := IntWalk.i64_in _ (by omega)
      have hXd : Below wr.heap.size wr wr.drew := Below.drew (Below.refl _ _)
      replace hB := hB.trans (hXd.mono hB.size)
      clear hXd
      go_wp2
      refine wp_region_held_drew (S := fun w' => w'.cell? ⟨b, off + j, none⟩ = some (.string T)) (by kernel_rfl) c0 (fun hH => ?_)
      refine tkH 0 (v := ?_) rfl (fun _ _ _ h => h) (Or.inl ⟨by rfl, ?_⟩) hH ?_
      rotate_left
      · intro w9 hSw
        try dsimp only at hSw
        obtain s0 := hSw
        go_simp
        try with_reducible rfl
      try simp only [Act.put, List.setIfInBounds_toArray, List.set_cons_zero, List.set_cons_succ]
      refine tkH 1 (v := ?_) rfl (fun _ _ _ h => h) (Or.inl ⟨by rfl, ?_⟩) hH ?_
      rotate_left
      · intro w9 hSw
        try dsimp only at hSw
        obtain s0 := hSw
        go_simp
        try with_reducible rfl
      try simp only [Act.put, List.setIfInBounds_toArray, List.set_cons_zero, List.set_cons_succ]
      refine tkH 2 (v := ?_) rfl (fun _ _ _ h => h) (Or.inl ⟨by rfl, ?_⟩) hH ?_
      rotate_left
      · intro w9 hSw
        try dsimp only at hSw
        obtain s0 := hSw
        go_simp
        try with_reducible rfl
      try simp only [Act.put, List.setIfInBounds_toArray, List.set_cons_zero, List.set_cons_succ]
      refine tkH 3 (v := ?_) rfl (fun _ _ _ h => h) (Or.inl ⟨by rfl, ?_⟩) hH ?_
      rotate_left
      · intro w9 hSw
        try dsimp only at hSw
        obtain s0 := hSw
        go_simp
        try with_reducible rfl
      try simp only [Act.put, List.setIfInBounds_toArray, List.set_cons_zero, List.set_cons_succ]
      refine tkH 4 (v := ?_) rfl (fun _ _ _ h => h) (Or.inl ⟨by rfl, ?_⟩) hH ?_
      rotate_left
      · intro w9 hSw
        try dsimp only at hSw
        obtain s0 := hSw
        go_simp
        try with_reducible rfl
      try simp only [Act.put, List.setIfInBounds_toArray, List.set_cons_zero, List.set_cons_succ]
      refine wpAnyH_ready (rs := [5]) (by kernel_rfl) (by simp) ?_
      refine AllReadyH.cons rfl (fun K hK => ?_) AllReadyH.nil
      go_simp
      go_at_call 29
      try rw [hKj]
      refine (hmt.out _ hKb).mono ?_
      rintro e8 w8 ⟨rfl, hB8⟩
      have c2 := cell_keep (w := wr.drew) c0 hB8
      refine hK.out _ _ c2 (fun hH => ?_)
      clear hK K
      try simp only [Act.put, List.setIfInBounds_toArray, List.set_cons_zero, List.set_cons_succ]
      refine tkH 6 (v := ?_) rfl (fun _ _ _ h => h) (Or.inl ⟨by rfl, ?_⟩) hH ?_
      rotate_left
      · intro w9 hSw
        try dsimp only at hSw
        obtain s0 := hSw
        go_simp
        try with_reducible rfl
      try simp only [Act.put, List.setIfInBounds_toArray, List.set_cons_zero, List.set_cons_succ]
      refine wpAnyH_done (by kernel_rfl) ?_ _
      go_wp2
      go_roundw
      case rel => exact ⟨j + 1, hlt, by go_num, by go_num, hB.trans (hB8.mono hB.size)⟩
      case measure => simp [intOf]; omega
    · obtain rfl : j = n := by omega
      go_wp2
      go_ret
      exact ⟨rfl, hB⟩
end Go.Proofs.YtcoomogabicfnaaDoor
