/-
  A slice of bytes that is read as data.
-/
import Derived.Test.YtcoomogabicfnaaOpen
import Derived.Test.YtcoomogabicfnaaSrc
namespace Go.Proofs.Ytcoomogabicfnaa
open Go.RowKit Go.ChangeShapes Go.WideShapes Go.Deep
set_option linter.unusedVariables false
set_option linter.unusedSimpArgs false
section
variable {H : Type} {enc : TypeId × Value → H} {P : Program} {w : World} {base : Nat} {spare : Nat → Bool} {held : Bool}
theorem open_bytes {t e : TypeId} {fuel : Nat} {v : Value} {x : DataW H × List MemPlace} (ht : P.underlying t = some (.slice e)) (he : P.underlying e = some (.int .u8)) (hC : P.cellsOf e = 1)
    (h : DataW.trod enc P w base spare held fuel t [v] = some x) : ∃ l : List Int, Lst byteCell 1 w w.heap.size v l ∧ Hid (∀ n ∈ l, 0 ≤ n ∧ n ≤ 255) := by
  rcases open_ints ht he hC h with ⟨hcs, _⟩ | ⟨a, len, cap, zs, hcs, _, hl, hm, hz, _, hcell, hwz⟩
  · simp at hcs
    subst hcs
    exact ⟨[], Lst.nil, by show ∀ n ∈ ([] : List Int), _; simp⟩
  · simp at hcs
    subst hcs
    have hzl : len ≤ zs.length := by
      have hz' := hz
      split at hz' <;> omega
    have hlt : (zs.take len).length = len := by simp; omega
    refine ⟨zs.take len, ⟨flat_len byteCell 1 byteCell_len _, by omega, some a, cap, by rw [hlt], by omega, fun hp => ?_⟩, fun n hn => bounds_u8 (hwz n (List.mem_of_mem_take hn))⟩
    have hq := hcell 0 (by omega)
    obtain ⟨b, off, spot⟩ := a
    have hspot : spot = none := by simpa [Addr.add] using World.cell?_spot hq
    subst hspot
    refine ⟨b, off, rfl, ?_, fun j u hu => ?_⟩
    · have := World.block_lt_of_cell? w _ hq
      rw [add_plain] at this
      exact this
    · have hj : j < len := by
        have := (List.getElem?_eq_some_iff.1 hu).1
        rw [flat_len byteCell 1 byteCell_len, hlt] at this
        omega
      have g := flat_get byteCell 1 byteCell_len (zs.take len) j 0 (by omega) (by omega)
      simp only [Nat.mul_one, Nat.add_zero] at g
      rw [g] at hu
      have hc := hcell j (by omega)
      rw [add_plain] at hc
      rw [hc]
      simp [byteCell] at hu
      rw [← hu]
      simp [List.getD, List.getElem?_eq_getElem (show j < zs.length by omega)]
end
set_option maxHeartbeats 400000 in
set_option maxRecDepth 100000 in
theorem laws_big (v : Value) (bs : List Int) (w : World) (h0 : Lst byteCell 1 w w.heap.size v bs) :
    Calls Try.prog 4 #[v] w fun e w' => e = .returned (.bool (decide ((4096 : Int) < (bs.length : Int)))) ∧ w = w' := by
  obtain ⟨A, c, rfl⟩ := h0.shape
  go_enter Try.func4, Try.ntmps4
  go_wp2
  go_ret
  exact ⟨rfl, rfl⟩

set_option maxHeartbeats 1000000 in
set_option maxRecDepth 100000 in
theorem laws_likeInts (v u : Value) (l m : List Int) (w : World) (h0 : Lst intCell 1 w w.heap.size v l) (h1 : Lst intCell 1 w w.heap.size u m) :
    Calls Try.prog 37 #[v, u] w fun r w' => r = .returned (.bool (decide (l = m))) ∧ Below w.heap.size w w' := by
  obtain ⟨A, c, rfl⟩ := h0.shape
  obtain ⟨C, d, rfl⟩ := h1.shape
  have hl := h0.len_le
  have hm := h1.len_le
  by_cases hlm : l.length = m.length
  · have hne : ((l.length : Int) != (m.length : Int)) = false := by rw [hlm]; simp
    have hlm1 : l.length ≤ m.length := by omega
    have hlm2 : m.length ≤ l.length := by omega
    clear hlm
    go_enter Try.func37, Try.ntmps37
    go_wp2
    go_loopw [5] (fun i wr => ∃ k : Nat, k ≤ l.length ∧ i = .int .i64 k ∧ Hid (l.take k = m.take k) ∧ Below w.heap.size w wr) (fun i _ => l.length - (intOf i).toNat)
    case atStart => exact ⟨0, Nat.zero_le _, rfl, rfl, Below.refl _ _⟩
    case round =>
      obtain ⟨k, hk, rfl, hE, hB⟩ := hrel
      by_cases hlt : k < l.length
      · have hlt' : k < m.length := by omega
        obtain ⟨b1, o1, hA, -, d0⟩ := ints_at (h0.now hB) k hlt
        cases hA
        obtain ⟨b2, o2, hA2, -, d1⟩ := ints_at (h1.now hB) k hlt'
        cases hA2
        have i1 : (0 : Int) ≤ (k : Int) := by omega
        have i2 : (k : Int) < (l.length : Int) := by omega
        have i3 : (k : Int) < (m.length : Int) := by omega
        obtain ⟨x, hx⟩ : ∃ x, l[k] = x := ⟨_, rfl⟩
        obtain ⟨y, hy⟩ : ∃ y, m[k] = y := ⟨_, rfl⟩
        rw [hx] at d0
        rw [hy] at d1
        have hxH := Lib.hid hx
        have hyH := Lib.hid hy
        clear hx hy
        have c0 : wr.drew.cell? ⟨b1, o1 + k, none⟩ = some (.int .i64 x) := d0
        have c1 : wr.drew.cell? ⟨b2, o2 + k, none⟩ = some (.int .i64 y) := d1
        clear d0 d1
        go_wp2
        refine wp_region_held_drew (S := fun w' => w'.cell? ⟨b1, o1 + k, none⟩ = some (.int .i64 x) ∧ w'.cell? ⟨b2, o2 + k, none⟩ = some (.int .i64 y)) (by kernel_rfl) ⟨c0, c1⟩ (fun hH => ?_)
        refine tkH 0 (v := ?_) rfl (fun _ _ _ h => h) (Or.inl ⟨by rfl, ?_⟩) hH ?_
        rotate_left
        · intro w9 hSw
          try dsimp only at hSw
          obtain ⟨s0, s1⟩ := hSw
          go_simp
          try with_reducible rfl
        try simp only [Act.put, List.setIfInBounds_toArray, List.set_cons_zero, List.set_cons_succ]
        refine tkH 1 (v := ?_) rfl (fun _ _ _ h => h) (Or.inl ⟨by rfl, ?_⟩) hH ?_
        rotate_left
        · intro w9 hSw
          try dsimp only at hSw
          obtain ⟨s0, s1⟩ := hSw
          go_simp
          try with_reducible rfl
        try simp only [Act.put, List.setIfInBounds_toArray, List.set_cons_zero, List.set_cons_succ]
        refine tkH 2 (v := ?_) rfl (fun _ _ _ h => h) (Or.inl ⟨by rfl, ?_⟩) hH ?_
        rotate_left
        · intro w9 hSw
          try dsimp only at hSw
          obtain ⟨s0, s1⟩ := hSw
          go_simp
          try with_reducible rfl
        try simp only [Act.put, List.setIfInBounds_toArray, List.set_cons_zero, List.set_cons_succ]
        refine tkH 3 (v := ?_) rfl (fun _ _ _ h => h) (Or.inl ⟨by rfl, ?_⟩) hH ?_
        rotate_left
        · intro w9 hSw
          try dsimp only at hSw
          obtain ⟨s0, s1⟩ := hSw
          go_simp
          try with_reducible rfl
        try simp only [Act.put, List.setIfInBounds_toArray, List.set_cons_zero, List.set_cons_succ]
        refine tkH 4 (v := ?_) rfl (fun _ _ _ h => h) (Or.inl ⟨by rfl, ?_⟩) hH ?_
        rotate_left
        · intro w9 hSw
          try dsimp only at hSw
          obtain ⟨s0, s1⟩ := hSw
          go_simp
          try with_reducible rfl
        try simp only [Act.put, List.setIfInBounds_toArray, List.set_cons_zero, List.set_cons_succ]
        refine tkH 5 (v := ?_) rfl (fun _ _ _ h => h) (Or.inl ⟨by rfl, ?_⟩) hH ?_
        rotate_left
        · intro w9 hSw
          try dsimp only at hSw
          obtain ⟨s0, s1⟩ := hSw
          go_simp
          try with_reducible rfl
        try simp only [Act.put, List.setIfInBounds_toArray, List.set_cons_zero, List.set_cons_succ]
        refine tkH 6 (v := ?_) rfl (fun _ _ _ h => h) (Or.inl ⟨by rfl, ?_⟩) hH ?_
        rotate_left
        · intro w9 hSw
          try dsimp only at hSw
          obtain ⟨s0, s1⟩ := hSw
          go_simp
          try with_reducible rfl
        try simp only [Act.put, List.setIfInBounds_toArray, List.set_cons_zero, List.set_cons_succ]
        refine tkH 7 (v := ?_) rfl (fun _ _ _ h => h) (Or.inl ⟨by rfl, ?_⟩) hH ?_
        rotate_left
        · intro w9 hSw
          try dsimp only at hSw
          obtain ⟨s0, s1⟩ := hSw
          go_simp
          try with_reducible rfl
        try simp only [Act.put, List.setIfInBounds_toArray, List.set_cons_zero, List.set_cons_succ]
        refine tkH 8 (v := ?_) rfl (fun _ _ _ h => h) (Or.inl ⟨by rfl, ?_⟩) hH ?_
        rotate_left
        · intro w9 hSw
          try dsimp only at hSw
          obtain ⟨s0, s1⟩ := hSw
          go_simp
          try with_reducible rfl
        try simp only [Act.put, List.setIfInBounds_toArray, List.set_cons_zero, List.set_cons_succ]
        refine wpAnyH_done (by kernel_rfl) ?_ _
        have hB' := hB.trans ((Below.refl _ wr).drew.mono hB.size)
        by_cases heq : x = y
        · have hq : (x != y) = false := by simp [heq]
          have hE' : Hid (l.take (k + 1) = m.take (k + 1)) := by show _ = _; rw [take_succ_get _ _ hlt, take_succ_get _ _ hlt', hE.out, hxH.out, hyH.out, heq]
          clear heq
          go_wp2
          go_roundw
          case rel => exact ⟨k + 1, hlt, by go_num, hE', hB'⟩
          case measure => simp [intOf]; omega
        · have hq : (x != y) = true := by simpa using heq
          have hF : Hid (decide (l = m) = false) := decide_eq_false (by intro h; subst h; exact heq (hxH.out.symm.trans hyH.out))
          clear heq
          go_wp2
          go_ret
          exact ⟨ret_bool hF.out.symm, hB'⟩
      · obtain rfl : k = l.length := by omega
        have hF : Hid (decide (l = m) = true) := decide_eq_true (by have h := hE.out; rw [List.take_length] at h; rw [h]; exact List.take_of_length_le (by omega))
        go_wp2
        go_ret
        exact ⟨ret_bool hF.out.symm, hB⟩
  · have hne : ((l.length : Int) != (m.length : Int)) = true := by rw [bne_iff_ne]; omega
    have hF : Hid (decide (l = m) = false) := decide_eq_false (by intro h; exact hlm (by rw [h]))
    clear hlm
    go_enter Try.func37, Try.ntmps37
    go_wp2
    go_ret
    exact ⟨ret_bool hF.out.symm, Below.refl _ _⟩
end Go.Proofs.Ytcoomogabicfnaa
