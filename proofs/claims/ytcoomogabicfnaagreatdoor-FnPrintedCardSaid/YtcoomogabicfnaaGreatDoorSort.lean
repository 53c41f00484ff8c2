/-
  The program's way to simplify places: sorted by slices.SortFunc (the kit's contract), and one of each key kept by slices.CompactFunc.
-/
import Derived.Test.YtcoomogabicfnaaGreatDoorSmpQ
import Derived.Test.YtcoomogabicfnaaGreatDoorLoad
import Derived.Shelf.SlSortCmp.NoneTotal
import Derived.Shelf.Lay
import Derived.Ground.SlsfProg
namespace Go.Proofs.YtcoomogabicfnaaGreatDoor
open Go.RowKit Go.Sort Go.Lib Go.Shelf
set_option linter.unusedVariables false
set_option linter.unusedSimpArgs false
shelf_lay_g SlLaysF0.n6 Slsf 6 at Tryz 65 as Tryz.sortPl
instance : Inhabited Place := ⟨⟨0, 0, 0, 0⟩⟩
/-! ### the order by which the program sorts -/
def orL : List Int → Int
  | [] => 0
  | x :: l => if x = 0 then orL l else x
def cfP (p q : Place) : Int := orL [cmpI p.src q.src, cmpI p.dst q.dst, cmpI p.tokens q.tokens, cmpI q.delay p.delay]
theorem cmpI_sign (x y : Int) : (cmpI x y = -1 ∧ x < y) ∨ (cmpI x y = 0 ∧ x = y) ∨ (cmpI x y = 1 ∧ y < x) := by unfold cmpI; split <;> (try split) <;> omega
theorem cfP_neg (p q : Place) : cfP p q < 0 ↔ placeLt p q = true := by
  rw [placeLt_iff, keyLt_iff, keyEq_iff]
  simp only [cfP, orL]
  rcases cmpI_sign p.src q.src with ⟨e1, h1⟩ | ⟨e1, h1⟩ | ⟨e1, h1⟩ <;> rcases cmpI_sign p.dst q.dst with ⟨e2, h2⟩ | ⟨e2, h2⟩ | ⟨e2, h2⟩ <;> rcases cmpI_sign p.tokens q.tokens with ⟨e3, h3⟩ | ⟨e3, h3⟩ | ⟨e3, h3⟩ <;>
    rcases cmpI_sign q.delay p.delay with ⟨e4, h4⟩ | ⟨e4, h4⟩ | ⟨e4, h4⟩ <;> simp only [e1, e2, e3, e4] <;> simp <;> omega
theorem placeLt_total {p q : Place} (h1 : placeLt p q = false) (h2 : placeLt q p = false) : p = q := by
  have a1 : ¬ placeLt p q = true := by rw [h1]; simp
  have a2 : ¬ placeLt q p = true := by rw [h2]; simp
  rw [placeLt_iff, keyLt_iff, keyEq_iff] at a1 a2
  exact place_ext ((keyEq_iff p q).2 (by omega)) (by omega)
/-! ### a row of places that is sorted where it lies -/
section
variable {α : Type} [Inhabited α]
theorem flatK_toList (f : α → List Value) (s : Nat) (hf : ∀ x, (f x).length = s) (l : List α) : (flatK f s l.toArray).toList = l.flatMap f := by
  apply List.ext_getElem?
  intro t
  by_cases ht : t < l.length * s
  · have hs : 0 < s := by
      rcases Nat.eq_zero_or_pos s with h | h
      · subst h
        omega
      · exact h
    have hk : t / s < l.length := Nat.div_lt_of_lt_mul (by rw [Nat.mul_comm]; exact ht)
    have e := flat_get f s hf l (t / s) (t % s) hk (Nat.mod_lt _ hs)
    rw [Nat.div_add_mod'] at e
    rw [e]
    have h1 : t < (flatK f s l.toArray).size := by simpa using ht
    have g := get_flatK f s l.toArray t (by simpa using ht)
    rw [getElem!_pos _ t h1] at g
    rw [Array.getElem?_toList, Array.getElem?_eq_getElem h1, g]
    have h2 : t % s < (f l[t / s]).length := by rw [hf]; exact Nat.mod_lt _ hs
    have e3 : (l.toArray)[t / s]! = l[t / s] := by rw [getElem!_pos (l.toArray) (t / s) (by simpa using hk)]; simp
    rw [e3, List.getElem?_eq_getElem h2, getElem!_pos (f (l[t / s])) (t % s) h2]
  · rw [List.getElem?_eq_none (by simp; omega), List.getElem?_eq_none (by rw [flat_len f s hf]; omega)]
theorem holdsK_of_block {w : World} {g s : Nat} {cur : Array Value} {e : TypeId} (f : α → List Value) (hf : ∀ x, (f x).length = s) {l : List α} (hb : w.heap[g]? = some (.cells cur e (0, 0))) (ht : cur.toList.take (l.length * s) = l.flatMap f) : HoldsK f s w g 0 l.toArray := by
  intro j hj
  have hj' : j < l.length * s := by simpa using hj
  refine ⟨?_, by simp [World.frozen?, hb]⟩
  have h1 : (cur.toList.take (l.length * s))[j]? = (flatK f s l.toArray).toList[j]? := by rw [ht, flatK_toList f s hf]
  rw [List.getElem?_take_of_lt hj'] at h1
  simp only [World.cell?, hb, Nat.zero_add]
  simp only [Option.isSome_none, Bool.false_eq_true, if_false]
  rw [← Array.getElem?_toList, h1, Array.getElem?_toList, Array.getElem?_eq_getElem hj, getElem!_pos _ j hj]
  rfl
theorem heap_sortedK {w : World} {g n : Nat} {os : Array Obj} {cur : Array Value} {e : TypeId} {fr : Nat × Nat} (f : α → List Value) (s : Nat) (d : Array α) (hb : w.heap[g]? = some (.cells cur e fr)) :
    (sortWorldK f s w g 0 n d os).heap[g]? = some (.cells (putCells id 0 (flatK f s d) cur) e fr) := by
  have hg : g < w.heap.size := (Array.getElem?_eq_some_iff.1 hb).1
  unfold sortWorldK
  rw [heap_grow_old _ _ (by simpa [putRowK] using hg)]
  simp [putRowK, putRow, mapBlock, Sort.ahead, Array.getElem?_modify, hb, onCells]
theorem grownBy_sortedK {w : World} {g n : Nat} {os : Array Obj} (f : α → List Value) (s : Nat) (d : Array α) : w.grownBy (sortWorldK f s w g 0 n d os) (some g) := by
  unfold sortWorldK
  refine ⟨rfl, rfl, rfl, by simp [putRowK], fun k hk hne => ?_⟩
  rw [heap_grow_old _ _ (by simpa [putRowK] using hk)]
  have : g ≠ k := fun e => hne (by rw [e])
  simp [putRowK, putRow, mapBlock, Sort.ahead, Array.getElem?_modify, this]
theorem take_putCellsK (cur F : Array Value) (h : F.size ≤ cur.size) : (putCells id 0 F cur).toList.take F.size = F.toList := by
  apply List.ext_getElem?
  intro j
  by_cases hj : j < F.size
  · rw [List.getElem?_take_of_lt hj, Array.getElem?_toList]
    simp [putCells, hj, show j < cur.size by omega]
  · rw [List.getElem?_take_eq_none (by omega), List.getElem?_eq_none (by simp; omega)]
theorem Own.sorted {w : World} {base g n c m : Nat} {e : TypeId} {os : Array Obj} (f : α → List Value) (s : Nat) (hf : ∀ x, (f x).length = s) {l l' : List α} (h : Own f s e w base (.slice (some ⟨g, 0, none⟩) n c) l) (hl : l'.length = l.length) :
    Own f s e (sortWorldK f s w g 0 m l'.toArray os) base (.slice (some ⟨g, 0, none⟩) n c) l' := by
  rcases h.2 with ⟨hv, _⟩ | ⟨g', cap, cur, hv, hb, hh, h1, h2, h3, h4⟩
  · cases hv
  · injection hv with ha hn hc
    injection ha with ha
    injection ha with ha
    subst ha hn hc
    refine ⟨by rw [flat_len f s hf], .inr ⟨g, c, _, ?_, hb, heap_sortedK f s _ hh, by omega, h2, by simp [putCells, h3], ?_⟩⟩
    · rw [hl]
    · have := take_putCellsK cur (flatK f s l'.toArray) (by rw [size_flatK, h3]; simp only [List.size_toArray]; exact Nat.mul_le_mul_right s (by omega))
      rw [size_flatK, flatK_toList f s hf] at this
      simpa using this
theorem Own.holdsK {w : World} {base g n c : Nat} {e : TypeId} (f : α → List Value) (s : Nat) (hf : ∀ x, (f x).length = s) {l : List α} (h : Own f s e w base (.slice (some ⟨g, 0, none⟩) n c) l) : HoldsK f s w g 0 l.toArray := by
  rcases h.2 with ⟨hv, _⟩ | ⟨g', cap, cur, hv, hb, hh, h1, h2, h3, h4⟩
  · cases hv
  · injection hv with ha hn hc
    injection ha with ha
    injection ha with ha
    subst ha
    exact holdsK_of_block f hf hh h4
end
theorem below_grownR {w w' : World} (h : Below w.heap.size w w') (row : Option Nat) : w.grownBy w' row := ⟨h.os, h.tape, h.output, h.size, fun k hk _ => h.block k hk⟩
/-- A world that has only drawn and grown. -/
def GT (W w' : World) : Prop := Below W.heap.size W w' ∧ W.drawn ≤ w'.drawn
theorem GT.refl (W : World) : GT W W := ⟨Below.refl _ _, Nat.le_refl _⟩
theorem GT.grow {W w' : World} (h : GT W w') : ∃ q os, w' = Go.Sort.grow (W.drewN q) os := by
  obtain ⟨hb, hd⟩ := h
  refine ⟨w'.drawn - W.drawn, w'.heap.extract W.heap.size w'.heap.size, ?_⟩
  have e1 : w'.heap = W.heap ++ w'.heap.extract W.heap.size w'.heap.size := by
    apply Array.ext
    · have := hb.size
      simp
      omega
    · intro i h1 h2
      rw [Array.getElem_append]
      split
      · rename_i hlt
        have := hb.block i hlt
        rw [Array.getElem?_eq_getElem h1, Array.getElem?_eq_getElem hlt] at this
        exact Option.some.inj this
      · simp
        congr 1
        omega
  cases w'
  cases W
  simp only [Go.Sort.grow, World.drewN, World.mk.injEq]
  exact ⟨e1, hb.tape, by simp at hd ⊢; omega, hb.os, hb.output⟩
theorem GT.drew {W w' : World} (h : GT W w') : GT W w'.drew := ⟨h.1.drew, Nat.le_trans h.2 (Nat.le_succ _)⟩
theorem GT.alloc {W w' : World} (h : GT W w') (o : Obj) : GT W (w'.alloc o) := ⟨h.1.alloc h.1.size o, h.2⟩
theorem lst_newN (w : World) (e : TypeId) (l : List Int) (hl : l.length ≤ 1000) : Lst intCell 1 (w.alloc (.cells (l.map (Value.int .i64)).toArray e)) (w.alloc (.cells (l.map (Value.int .i64)).toArray e)).heap.size (.slice (some ⟨w.heap.size, 0, none⟩) l.length l.length) l := by
  have hf : l.flatMap intCell = l.map (Value.int .i64) := by
    induction l with
    | nil => rfl
    | cons a l ih => simp [List.flatMap_cons, ih (by simp at hl; omega), intCell]
  refine ⟨by rw [hf]; simp, by simp [maxLen]; omega, some ⟨w.heap.size, 0, none⟩, l.length, rfl, by simp, fun _ => ⟨w.heap.size, 0, rfl, by simp, fun j u hu => ?_⟩⟩
  rw [cell_of_row _ _ _ _ _ _ (heap_alloc_new w _)]
  rw [hf] at hu
  simpa using hu
set_option maxHeartbeats 400000 in
set_option maxRecDepth 100000 in
theorem cmp_Or_list (v : Value) (l : List Int) (w : World) (h0 : Lst intCell 1 w w.heap.size v l) :
    Calls Tryz.prog 67 #[v] w fun e w' => e = .returned (.int .i64 (orL l)) ∧ w = w' := by
  have hlen := h0.len_le
  obtain ⟨A, c, rfl⟩ := h0.shape
  go_enter Tryz.func67, Tryz.ntmps67
  go_wp2
  go_loop [5, 8] (fun _ i => ∃ k : Nat, k ≤ l.length ∧ i = .int .i64 k ∧ Hid (orL l = orL (l.drop k))) (fun _ i => l.length - (intOf i).toNat)
  case atStart => exact ⟨0, Nat.zero_le _, rfl, rfl⟩
  case round =>
    obtain ⟨k, hk, rfl, hN⟩ := hrel
    by_cases hlt : k < l.length
    · obtain ⟨b, off, rfl, hb, c0⟩ := ints_at h0 k hlt
      have hd := hN.out
      rw [List.drop_eq_getElem_cons hlt] at hd
      obtain ⟨z, hz⟩ : ∃ z, l[k] = z := ⟨_, rfl⟩
      rw [hz] at c0 hd
      simp only [orL] at hd
      clear hz
      by_cases h0z : z = 0
      · have q1 : (z != 0) = false := by simp [h0z]
        rw [if_pos h0z] at hd
        have hN' := Lib.hid hd
        clear h0z hd
        go_wp2
        go_round
        case rel => exact ⟨k + 1, hlt, by go_num, hN'⟩
        case measure => simp [intOf]; omega
      · have q1 : (z != 0) = true := by simpa using h0z
        rw [if_neg h0z] at hd
        have hF := Lib.hid hd
        clear h0z hd
        go_wp2
        go_ret
        exact ⟨ret_int hF.out.symm, rfl⟩
    · obtain rfl : k = l.length := by omega
      have hF : Hid (orL l = 0) := by
        have := hN.out
        rw [List.drop_length] at this
        exact this
      go_wp2
      go_ret
      exact ⟨ret_int hF.out.symm, rfl⟩
set_option maxHeartbeats 4000000 in
set_option maxRecDepth 100000 in
theorem impl_simplified1 (p q : Place) (w : World) :
    Calls Tryz.prog 66 #[.agg (Place.cells p).toArray, .agg (Place.cells q).toArray] w fun e w' => e = .returned (.int .i64 (cfP p q)) ∧ GT w w' := by
  have hE : Hid (cfP p q = orL [cmpI p.src q.src, cmpI p.dst q.dst, cmpI p.tokens q.tokens, cmpI q.delay p.delay]) := rfl
  rw [hE.out]
  clear hE
  obtain ⟨a0, a1, a2, a3⟩ := p
  obtain ⟨b0, b1, b2, b3⟩ := q
  show Calls Tryz.prog 66 #[.agg #[.int .i64 a0, .int .i64 a1, .int .i64 a2, .int .i64 a3], .agg #[.int .i64 b0, .int .i64 b1, .int .i64 b2, .int .i64 b3]] w _
  dsimp only
  go_enter Tryz.func66, Tryz.ntmps66
  go_wp2_with fail
  have hG0 : GT w ((w.alloc (.cells #[.int .i64 a0, .int .i64 a1, .int .i64 a2, .int .i64 a3] 57)).alloc (.cells #[.int .i64 b0, .int .i64 b1, .int .i64 b2, .int .i64 b3] 57)) := ((GT.refl w).alloc _).alloc _
  have hp : Blk ((w.alloc (.cells #[.int .i64 a0, .int .i64 a1, .int .i64 a2, .int .i64 a3] 57)).alloc (.cells #[.int .i64 b0, .int .i64 b1, .int .i64 b2, .int .i64 b3] 57)) w.heap.size 57 #[.int .i64 a0, .int .i64 a1, .int .i64 a2, .int .i64 a3] := (Blk.newAt w _ rfl).alloc _
  have hq : Blk ((w.alloc (.cells #[.int .i64 a0, .int .i64 a1, .int .i64 a2, .int .i64 a3] 57)).alloc (.cells #[.int .i64 b0, .int .i64 b1, .int .i64 b2, .int .i64 b3] 57)) (w.heap.size + 1) 57 #[.int .i64 b0, .int .i64 b1, .int .i64 b2, .int .i64 b3] := Blk.newAt _ _ (by simp)
  generalize (w.alloc (.cells #[.int .i64 a0, .int .i64 a1, .int .i64 a2, .int .i64 a3] 57)).alloc (.cells #[.int .i64 b0, .int .i64 b1, .int .i64 b2, .int .i64 b3] 57) = W at *
  have lp := hp.lt
  have lq := hq.lt
  obtain ⟨c0, c1, c2, c3⟩ := hp.c4
  obtain ⟨d0, d1, d2, d3⟩ := hq.c4
  have hG1 := hG0.drew
  clear hp hq hG0
  refine wp_region_held_drew (S := fun w' => w'.cell? ⟨w.heap.size, 0, none⟩ = some (.int .i64 a0) ∧ w'.cell? ⟨w.heap.size, 1, none⟩ = some (.int .i64 a1) ∧ w'.cell? ⟨w.heap.size, 2, none⟩ = some (.int .i64 a2) ∧ w'.cell? ⟨w.heap.size, 3, none⟩ = some (.int .i64 a3) ∧ w'.cell? ⟨w.heap.size + 1, 0, none⟩ = some (.int .i64 b0) ∧ w'.cell? ⟨w.heap.size + 1, 1, none⟩ = some (.int .i64 b1) ∧ w'.cell? ⟨w.heap.size + 1, 2, none⟩ = some (.int .i64 b2) ∧ w'.cell? ⟨w.heap.size + 1, 3, none⟩ = some (.int .i64 b3) ∧ GT w w') (by kernel_rfl) ⟨c0, c1, c2, c3, d0, d1, d2, d3, hG1⟩ (fun hH => ?_)
  refine tkH 0 (v := ?_) rfl (fun _ _ _ h => h) (Or.inl ⟨by rfl, ?_⟩) hH ?_
  rotate_left
  · intro w9 hSw
    try dsimp only at hSw
    obtain ⟨s0, s1, s2, s3, s4, s5, s6, s7, s8⟩ := hSw
    go_simp
    try with_reducible rfl
  try simp only [Act.put, List.setIfInBounds_toArray, List.set_cons_zero, List.set_cons_succ]
  refine tkH 1 (v := ?_) rfl (fun _ _ _ h => h) (Or.inl ⟨by rfl, ?_⟩) hH ?_
  rotate_left
  · intro w9 hSw
    try dsimp only at hSw
    obtain ⟨s0, s1, s2, s3, s4, s5, s6, s7, s8⟩ := hSw
    go_simp
    try with_reducible rfl
  try simp only [Act.put, List.setIfInBounds_toArray, List.set_cons_zero, List.set_cons_succ]
  refine tkH 2 (v := ?_) rfl (fun _ _ _ h => h) (Or.inl ⟨by rfl, ?_⟩) hH ?_
  rotate_left
  · intro w9 hSw
    try dsimp only at hSw
    obtain ⟨s0, s1, s2, s3, s4, s5, s6, s7, s8⟩ := hSw
    go_simp
    try with_reducible rfl
  try simp only [Act.put, List.setIfInBounds_toArray, List.set_cons_zero, List.set_cons_succ]
  refine tkH 3 (v := ?_) rfl (fun _ _ _ h => h) (Or.inl ⟨by rfl, ?_⟩) hH ?_
  rotate_left
  · intro w9 hSw
    try dsimp only at hSw
    obtain ⟨s0, s1, s2, s3, s4, s5, s6, s7, s8⟩ := hSw
    go_simp
    try with_reducible rfl
  try simp only [Act.put, List.setIfInBounds_toArray, List.set_cons_zero, List.set_cons_succ]
  refine tkH 5 (v := ?_) rfl (fun _ _ _ h => h) (Or.inl ⟨by rfl, ?_⟩) hH ?_
  rotate_left
  · intro w9 hSw
    try dsimp only at hSw
    obtain ⟨s0, s1, s2, s3, s4, s5, s6, s7, s8⟩ := hSw
    go_simp
    try with_reducible rfl
  try simp only [Act.put, List.setIfInBounds_toArray, List.set_cons_zero, List.set_cons_succ]
  refine tkH 6 (v := ?_) rfl (fun _ _ _ h => h) (Or.inl ⟨by rfl, ?_⟩) hH ?_
  rotate_left
  · intro w9 hSw
    try dsimp only at hSw
    obtain ⟨s0, s1, s2, s3, s4, s5, s6, s7, s8⟩ := hSw
    go_simp
    try with_reducible rfl
  try simp only [Act.put, List.setIfInBounds_toArray, List.set_cons_zero, List.set_cons_succ]
  refine tkH 7 (v := ?_) rfl (fun _ _ _ h => h) (Or.inl ⟨by rfl, ?_⟩) hH ?_
  rotate_left
  · intro w9 hSw
    try dsimp only at hSw
    obtain ⟨s0, s1, s2, s3, s4, s5, s6, s7, s8⟩ := hSw
    go_simp
    try with_reducible rfl
  try simp only [Act.put, List.setIfInBounds_toArray, List.set_cons_zero, List.set_cons_succ]
  refine tkH 8 (v := ?_) rfl (fun _ _ _ h => h) (Or.inl ⟨by rfl, ?_⟩) hH ?_
  rotate_left
  · intro w9 hSw
    try dsimp only at hSw
    obtain ⟨s0, s1, s2, s3, s4, s5, s6, s7, s8⟩ := hSw
    go_simp
    try with_reducible rfl
  try simp only [Act.put, List.setIfInBounds_toArray, List.set_cons_zero, List.set_cons_succ]
  refine tkH 10 (v := ?_) rfl (fun _ _ _ h => h) (Or.inl ⟨by rfl, ?_⟩) hH ?_
  rotate_left
  · intro w9 hSw
    try dsimp only at hSw
    obtain ⟨s0, s1, s2, s3, s4, s5, s6, s7, s8⟩ := hSw
    go_simp
    try with_reducible rfl
  try simp only [Act.put, List.setIfInBounds_toArray, List.set_cons_zero, List.set_cons_succ]
  refine tkH 11 (v := ?_) rfl (fun _ _ _ h => h) (Or.inl ⟨by rfl, ?_⟩) hH ?_
  rotate_left
  · intro w9 hSw
    try dsimp only at hSw
    obtain ⟨s0, s1, s2, s3, s4, s5, s6, s7, s8⟩ := hSw
    go_simp
    try with_reducible rfl
  try simp only [Act.put, List.setIfInBounds_toArray, List.set_cons_zero, List.set_cons_succ]
  refine tkH 12 (v := ?_) rfl (fun _ _ _ h => h) (Or.inl ⟨by rfl, ?_⟩) hH ?_
  rotate_left
  · intro w9 hSw
    try dsimp only at hSw
    obtain ⟨s0, s1, s2, s3, s4, s5, s6, s7, s8⟩ := hSw
    go_simp
    try with_reducible rfl
  try simp only [Act.put, List.setIfInBounds_toArray, List.set_cons_zero, List.set_cons_succ]
  refine tkH 13 (v := ?_) rfl (fun _ _ _ h => h) (Or.inl ⟨by rfl, ?_⟩) hH ?_
  rotate_left
  · intro w9 hSw
    try dsimp only at hSw
    obtain ⟨s0, s1, s2, s3, s4, s5, s6, s7, s8⟩ := hSw
    go_simp
    try with_reducible rfl
  try simp only [Act.put, List.setIfInBounds_toArray, List.set_cons_zero, List.set_cons_succ]
  refine tkH 15 (v := ?_) rfl (fun _ _ _ h => h) (Or.inl ⟨by rfl, ?_⟩) hH ?_
  rotate_left
  · intro w9 hSw
    try dsimp only at hSw
    obtain ⟨s0, s1, s2, s3, s4, s5, s6, s7, s8⟩ := hSw
    go_simp
    try with_reducible rfl
  try simp only [Act.put, List.setIfInBounds_toArray, List.set_cons_zero, List.set_cons_succ]
  refine tkH 16 (v := ?_) rfl (fun _ _ _ h => h) (Or.inl ⟨by rfl, ?_⟩) hH ?_
  rotate_left
  · intro w9 hSw
    try dsimp only at hSw
    obtain ⟨s0, s1, s2, s3, s4, s5, s6, s7, s8⟩ := hSw
    go_simp
    try with_reducible rfl
  try simp only [Act.put, List.setIfInBounds_toArray, List.set_cons_zero, List.set_cons_succ]
  refine tkH 17 (v := ?_) rfl (fun _ _ _ h => h) (Or.inl ⟨by rfl, ?_⟩) hH ?_
  rotate_left
  · intro w9 hSw
    try dsimp only at hSw
    obtain ⟨s0, s1, s2, s3, s4, s5, s6, s7, s8⟩ := hSw
    go_simp
    try with_reducible rfl
  try simp only [Act.put, List.setIfInBounds_toArray, List.set_cons_zero, List.set_cons_succ]
  refine tkH 18 (v := ?_) rfl (fun _ _ _ h => h) (Or.inl ⟨by rfl, ?_⟩) hH ?_
  rotate_left
  · intro w9 hSw
    try dsimp only at hSw
    obtain ⟨s0, s1, s2, s3, s4, s5, s6, s7, s8⟩ := hSw
    go_simp
    try with_reducible rfl
  try simp only [Act.put, List.setIfInBounds_toArray, List.set_cons_zero, List.set_cons_succ]
  refine wpAnyH_ready (rs := [4]) (by kernel_rfl) (by simp) ?_
  refine AllReadyH.cons rfl (fun K hK => ?_) AllReadyH.nil
  go_simp
  go_at_call 60
  refine (cmp_Compare _ _ _).mono ?_
  rintro e9 w9 ⟨rfl, rfl⟩
  refine hK.out _ _ ⟨c0, c1, c2, c3, d0, d1, d2, d3, hG1⟩ (fun hH => ?_)
  clear hK K
  try simp only [Act.put, List.setIfInBounds_toArray, List.set_cons_zero, List.set_cons_succ]
  refine wpAnyH_ready (rs := [9]) (by kernel_rfl) (by simp) ?_
  refine AllReadyH.cons rfl (fun K hK => ?_) AllReadyH.nil
  go_simp
  go_at_call 60
  refine (cmp_Compare _ _ _).mono ?_
  rintro e9 w9 ⟨rfl, rfl⟩
  refine hK.out _ _ ⟨c0, c1, c2, c3, d0, d1, d2, d3, hG1⟩ (fun hH => ?_)
  clear hK K
  try simp only [Act.put, List.setIfInBounds_toArray, List.set_cons_zero, List.set_cons_succ]
  refine wpAnyH_ready (rs := [14]) (by kernel_rfl) (by simp) ?_
  refine AllReadyH.cons rfl (fun K hK => ?_) AllReadyH.nil
  go_simp
  go_at_call 60
  refine (cmp_Compare _ _ _).mono ?_
  rintro e9 w9 ⟨rfl, rfl⟩
  refine hK.out _ _ ⟨c0, c1, c2, c3, d0, d1, d2, d3, hG1⟩ (fun hH => ?_)
  clear hK K
  try simp only [Act.put, List.setIfInBounds_toArray, List.set_cons_zero, List.set_cons_succ]
  refine wpAnyH_ready (rs := [19]) (by kernel_rfl) (by simp) ?_
  refine AllReadyH.cons rfl (fun K hK => ?_) AllReadyH.nil
  go_simp
  go_at_call 60
  refine (cmp_Compare _ _ _).mono ?_
  rintro e9 w9 ⟨rfl, rfl⟩
  refine hK.out _ _ ⟨c0, c1, c2, c3, d0, d1, d2, d3, hG1⟩ (fun hH => ?_)
  clear hK K
  try simp only [Act.put, List.setIfInBounds_toArray, List.set_cons_zero, List.set_cons_succ]
  refine wpAnyH_ready (rs := [20]) (by kernel_rfl) (by simp) ?_
  refine AllReadyH.cons rfl (fun K hK => ?_) AllReadyH.nil
  go_simp
  have hAl : Below W.drew.heap.size W.drew (W.drew.alloc (.cells #[.int .i64 (cmpI a0 b0), .int .i64 (cmpI a1 b1), .int .i64 (cmpI a3 b3), .int .i64 (cmpI b2 a2)] 3)) := (Below.refl _ _).alloc (Nat.le_refl _) _
  have hG2 := hG1.alloc (.cells #[.int .i64 (cmpI a0 b0), .int .i64 (cmpI a1 b1), .int .i64 (cmpI a3 b3), .int .i64 (cmpI b2 a2)] 3)
  have hL := lst_newN W.drew 3 [cmpI a0 b0, cmpI a1 b1, cmpI a3 b3, cmpI b2 a2] (by simp)
  have e0 := cell_keep (w := W.drew) c0 hAl
  have e1 := cell_keep (w := W.drew) c1 hAl
  have e2 := cell_keep (w := W.drew) c2 hAl
  have e3 := cell_keep (w := W.drew) c3 hAl
  have e4 := cell_keep (w := W.drew) d0 hAl
  have e5 := cell_keep (w := W.drew) d1 hAl
  have e6 := cell_keep (w := W.drew) d2 hAl
  have e7 := cell_keep (w := W.drew) d3 hAl
  refine hK.out _ _ ⟨e0, e1, e2, e3, e4, e5, e6, e7, hG2⟩ (fun hH => ?_)
  clear hK K
  try simp only [Act.put, List.setIfInBounds_toArray, List.set_cons_zero, List.set_cons_succ]
  refine wpAnyH_ready (rs := [21]) (by kernel_rfl) (by simp) ?_
  refine AllReadyH.cons rfl (fun K hK => ?_) AllReadyH.nil
  go_simp
  go_at_call 67
  refine (cmp_Or_list _ [cmpI a0 b0, cmpI a1 b1, cmpI a3 b3, cmpI b2 a2] _ hL).mono ?_
  rintro e9 w9 ⟨rfl, rfl⟩
  refine hK.out _ _ ⟨e0, e1, e2, e3, e4, e5, e6, e7, hG2⟩ (fun hH => ?_)
  clear hK K
  try simp only [Act.put, List.setIfInBounds_toArray, List.set_cons_zero, List.set_cons_succ]
  refine tkH 22 (v := ?_) rfl (fun _ _ _ h => h) (Or.inl ⟨by rfl, ?_⟩) hH ?_
  rotate_left
  · intro w9 hSw
    try dsimp only at hSw
    obtain ⟨s0, s1, s2, s3, s4, s5, s6, s7, s8⟩ := hSw
    go_simp
    try with_reducible rfl
  try simp only [Act.put, List.setIfInBounds_toArray, List.set_cons_zero, List.set_cons_succ]
  refine wpAnyH_done (by kernel_rfl) ?_ _
  go_wp2
  go_ret
  exact ⟨rfl, hG2⟩
set_option maxHeartbeats 4000000 in
set_option maxRecDepth 100000 in
theorem impl_simplified2 (p q : Place) (w : World) :
    Calls Tryz.prog 69 #[.agg (Place.cells p).toArray, .agg (Place.cells q).toArray] w fun e w' => e = .returned (.bool (keyEq p q)) ∧ Below w.heap.size w w' := by
  obtain ⟨a0, a1, a2, a3⟩ := p
  obtain ⟨b0, b1, b2, b3⟩ := q
  have hE : Hid (keyEq ⟨a0, a1, a2, a3⟩ ⟨b0, b1, b2, b3⟩ = (decide (a0 = b0) && (decide (a1 = b1) && decide (a3 = b3)))) := rfl
  rw [hE.out]
  clear hE
  show Calls Tryz.prog 69 #[.agg #[.int .i64 a0, .int .i64 a1, .int .i64 a2, .int .i64 a3], .agg #[.int .i64 b0, .int .i64 b1, .int .i64 b2, .int .i64 b3]] w _
  go_enter Tryz.func69, Tryz.ntmps69
  by_cases h0 : a0 = b0
  · by_cases h1 : a1 = b1
    · have hF : Hid ((decide (a0 = b0) && (decide (a1 = b1) && decide (a3 = b3))) = decide (a3 = b3)) := by show _ = _; simp [h0, h1]
      rw [hF.out]
      subst h0 h1
      clear hF
      go_wp2
      go_ret
      exact ⟨rfl, (by repeat (first | exact Below.refl _ _ | assumption | refine Below.drew ?_ | refine Below.alloc ?_ (by simp <;> omega) _ | refine Below.setCell ?_ (by simp <;> omega) _))⟩
    · have hF : Hid ((decide (a0 = b0) && (decide (a1 = b1) && decide (a3 = b3))) = false) := by show _ = _; simp [h1]
      rw [hF.out]
      subst h0
      clear hF
      go_wp2
      go_ret
      exact ⟨rfl, (by repeat (first | exact Below.refl _ _ | assumption | refine Below.drew ?_ | refine Below.alloc ?_ (by simp <;> omega) _ | refine Below.setCell ?_ (by simp <;> omega) _))⟩
  · have hF : Hid ((decide (a0 = b0) && (decide (a1 = b1) && decide (a3 = b3))) = false) := by show _ = _; simp [h0]
    rw [hF.out]
    clear hF
    go_wp2
    go_ret
    exact ⟨rfl, (by repeat (first | exact Below.refl _ _ | assumption | refine Below.drew ?_ | refine Below.alloc ?_ (by simp <;> omega) _ | refine Below.setCell ?_ (by simp <;> omega) _))⟩
theorem ltOf_cfP : ltOf cfP = placeLt := by
  funext x y
  unfold ltOf
  rw [Bool.eq_iff_iff, decide_eq_true_iff]
  exact cfP_neg x y
theorem swo_place : SWO placeLt where
  irrefl x := by
    cases h : placeLt x x with
    | false => rfl
    | true =>
      rw [placeLt_iff, keyLt_iff, keyEq_iff] at h
      omega
  trans x y z h1 h2 := by
    rw [placeLt_iff, keyLt_iff, keyEq_iff] at *
    omega
  ntrans x y z h1 h2 := by
    have a1 : ¬ placeLt x y = true := by rw [h1]; simp
    have a2 : ¬ placeLt y z = true := by rw [h2]; simp
    cases h : placeLt x z with
    | false => rfl
    | true =>
      rw [placeLt_iff, keyLt_iff, keyEq_iff] at a1 a2 h
      omega
/-- The places, sorted. -/
def sortP (l : List Place) : List Place := l.mergeSort fun x y => !(placeLt y x)
theorem cmpaF_sortP (l : List Place) : cmpaF (sortP l) = simpF l := by
  refine cmpaF_eq (fun p => List.mem_mergeSort) ?_
  have h := List.pairwise_mergeSort (le := fun x y => !(placeLt y x)) (fun x y z h1 h2 => ?_) (fun x y => ?_) l
  · exact h.imp fun h => by simpa using h
  · have := swo_place.ntrans z y x
    simp at h1 h2 ⊢
    exact this h2 h1
  · cases h1 : placeLt x y <;> cases h2 : placeLt y x <;> simp
    have := swo_place.trans x y x h1 h2
    rw [swo_place.irrefl] at this
    cases this
theorem slices_SortFunc_places (base : Nat) (v : Value) (l : List Place) (w : World) (h : Own Place.cells 4 57 w base v l) (hl : l.length ≤ 1048576) :
    Calls Tryz.prog 65 #[v, .func (.func 66) #[] #[]] w fun e w' => e = .returned (.tuple #[]) ∧ Own Place.cells 4 57 w' base v (sortP l) ∧ w.grownBy w' v.ownBlock := by
  obtain ⟨A, c, rfl⟩ := h.shape
  cases A with
  | none =>
    obtain rfl : l = [] := by
      rcases h.2 with ⟨hv, h0⟩ | ⟨g', cap, cur, hv, _⟩
      · exact List.length_eq_zero_iff.1 h0
      · cases hv
    refine (AnyF.slices_SortFunc_none Tryz.sortPl none c _ w).mono ?_
    rintro e w' ⟨he, rfl⟩
    exact ⟨he, by simpa [sortP] using h, below_grownR (Below.refl _ _) _⟩
  | some a =>
    obtain ⟨g, off, fr⟩ := a
    obtain ⟨rfl, rfl, hbg, hgl⟩ : off = 0 ∧ fr = none ∧ base ≤ g ∧ g < w.heap.size := by
      rcases h.2 with ⟨hv, h0⟩ | ⟨g', cap, cur, hv, hb, hh, _⟩
      · cases hv
      · injection hv with ha
        injection ha with ha
        injection ha with a b c
        subst a b c
        exact ⟨rfl, rfl, hb, (Array.getElem?_eq_some_iff.1 hh).1⟩
    have eg : ∀ args w, (callFunc 66 args).run Tryz.prog w = .ok (.enter 66 args) w := enters_of Tryz.func66 (by kernel_rfl) rfl
    have hcmp : CmpLays Tryz.prog 66 #[] Place.cells 4 cfP g 0 l.toArray.size w := fun m os dk hs x y =>
      (impl_simplified1 x y _).mono fun e w' ⟨he, hg⟩ => ⟨he, hg.grow⟩
    have hcon := AnyQ.slices_SortFunc_total Tryz.sortPl 4 Tryz.isAgg57 Tryz.sizeOf57 Place.cells Place.cells_len Place.cells_one cfP (by rw [ltOf_cfP]; exact swo_place) 66 #[] g 0 c l.toArray w eg hcmp (h.holdsK Place.cells 4 Place.cells_len) hgl (by simp; omega) (by rw [ltOf_cfP]; exact fun x y => placeLt_total)
    rw [ltOf_cfP] at hcon
    refine hcon.mono ?_
    rintro e w' ⟨he, n, os, rfl⟩
    refine ⟨he, ?_, ?_⟩
    · exact h.sorted Place.cells 4 Place.cells_len (by simp [sortP])
    · exact grownBy_sortedK Place.cells 4 (sortP l).toArray
theorem comp_more {l R : List Place} {m : Nat} {P Q : Place} (h : cmpaF l = R ++ compA l[m]! (l.drop (m + 1))) (hk : m + 1 < l.length) (hP : l[m + 1] = P) (hQ : l[m] = Q) :
    cmpaF l = (if keyEq P Q = true then R else R ++ [P]) ++ compA l[m + 1]! (l.drop (m + 2)) := by
  subst hP hQ
  rw [h, List.drop_eq_getElem_cons hk, compA, getElem!_pos l (m + 1) hk, getElem!_pos l m (by omega)]
  split
  · rfl
  · simp
theorem comp_start {l : List Place} (h : 0 < l.length) : cmpaF l = l.take 1 ++ compA l[0]! (l.drop 1) := by
  cases l with
  | nil => simp at h
  | cons a l => simp [cmpaF]
theorem row_at {l R : List Place} {j : Nat} (hj : j < l.length) (hR : R.length ≤ j) (h : j < (R ++ l.drop R.length).length) : (R ++ l.drop R.length)[j] = l[j] := by
  rw [List.getElem_append_right hR, List.getElem_drop]
  congr 1
  omega
theorem row_set {l R : List Place} {P : Place} (h : R.length < l.length) : (R ++ l.drop R.length).set R.length P = (R ++ [P]) ++ l.drop (R ++ [P]).length := by
  rw [List.set_append_right _ _ (Nat.le_refl _), Nat.sub_self, List.drop_eq_getElem_cons h]
  simp only [List.set_cons_zero, List.append_assoc, List.cons_append, List.nil_append, List.length_append, List.length_singleton]
theorem row_len {l R : List Place} (h : R.length ≤ l.length) : (R ++ l.drop R.length).length = l.length := by simp; omega
theorem compA_nil (p : Place) : compA p [] = [] := rfl
theorem own_cutS {α : Type} {f : α → List Value} {size : Nat} (hf : ∀ x, (f x).length = size) {e : TypeId} {w : World} {base n c : Nat} {A : Option Addr} {R X : List α} (h : Own f size e w base (.slice A n c) (R ++ X)) : Own f size e w base (.slice A R.length c) R := by
  refine ⟨by rw [flat_len f size hf], ?_⟩
  rcases h.2 with ⟨hv, h0⟩ | ⟨g, cap, cur, hv, hb, hg, h1, h2, h3, h4⟩
  · left
    injection hv with h5 h6 h7
    subst h5 h7
    simp at h0
    have : R = [] := h0.1
    subst this
    exact ⟨rfl, rfl⟩
  · right
    injection hv with h5 h6 h7
    subst h5 h7
    simp at h1
    refine ⟨g, c, cur, rfl, hb, hg, by omega, h2, h3, ?_⟩
    rw [List.flatMap_append, List.length_append, Nat.add_mul] at h4
    have h5 := congrArg (List.take (R.length * size)) h4
    have e5 : List.take (R.length * size) (R.flatMap f) = R.flatMap f := List.take_of_length_le (by rw [flat_len f size hf]; exact Nat.le_refl _)
    rw [List.take_take, List.take_append_of_le_length (by rw [flat_len f size hf]; exact Nat.le_refl _), e5, Nat.min_eq_left (Nat.le_add_right _ _)] at h5
    exact h5
theorem Own.beyond {α : Type} {f : α → List Value} {s : Nat} {e : TypeId} {w : World} {base n c g : Nat} {l : List α} (h : Own f s e w base (.slice (some ⟨g, 0, none⟩) n c) l) (o : Nat) (ho : l.length * s ≤ o) (u : Value) : Own f s e (w.setCell ⟨g, o, none⟩ u) base (.slice (some ⟨g, 0, none⟩) n c) l := by
  rcases h.2 with ⟨hv, _⟩ | ⟨g', cap, cur, hv, hb, hh, h1, h2, h3, h4⟩
  · cases hv
  · refine ⟨h.1, .inr ⟨g', cap, cur.setIfInBounds o u, hv, hb, ?_, h1, h2, by simp [h3], ?_⟩⟩
    · injection hv with ha
      injection ha with ha
      injection ha with ha
      subst ha
      rw [setCell_eq]
      simp [mapBlock, Array.getElem?_modify, hh, onCells]
    · rw [← h4]
      apply List.ext_getElem?
      intro j
      by_cases hj : j < l.length * s
      · rw [List.getElem?_take_of_lt hj, List.getElem?_take_of_lt hj, Array.getElem?_toList, Array.getElem?_toList, Array.getElem?_setIfInBounds, if_neg (by omega)]
      · rw [List.getElem?_take_eq_none (by omega), List.getElem?_take_eq_none (by omega)]
theorem Own.beyonds {α : Type} {f : α → List Value} {s : Nat} {e : TypeId} {base n c g : Nat} {l : List α} : ∀ (vs : List Value) (o : Nat) {w : World}, Own f s e w base (.slice (some ⟨g, 0, none⟩) n c) l → l.length * s ≤ o → Own f s e (w.setCells g o vs) base (.slice (some ⟨g, 0, none⟩) n c) l
  | [], _, _, h, _ => h
  | v :: r, o, w, h, ho => by
    rw [World.setCells]
    exact Own.beyonds r (o + 1) (h.beyond o ho v) (by omega)
theorem grown_below {w w1 w2 : World} {row : Option Nat} (h : w.grownBy w1 row) (hb : Below w1.heap.size w1 w2) : w.grownBy w2 row := by
  obtain ⟨h1, h2, h3, h4, h5⟩ := h
  exact ⟨hb.os.trans h1, hb.tape.trans h2, hb.output.trans h3, Nat.le_trans h4 hb.size, fun k hk hne => (hb.block k (Nat.lt_of_lt_of_le hk h4)).trans (h5 k hk hne)⟩
theorem grown_setG {w w1 : World} {g : Nat} (h : w.grownBy w1 (some g)) (o : Nat) (u : Value) : w.grownBy (w1.setCell ⟨g, o, none⟩ u) (some g) := by
  obtain ⟨h1, h2, h3, h4, h5⟩ := h
  exact ⟨h1, h2, h3, by simpa using h4, fun k hk hne => (Below.heap_setCell w1 ⟨g, o, none⟩ u k (fun e => hne (by rw [e]))).trans (h5 k hk hne)⟩
theorem grown_cells {w : World} {g : Nat} : ∀ (vs : List Value) (o : Nat) {w1 : World}, w.grownBy w1 (some g) → w.grownBy (w1.setCells g o vs) (some g)
  | [], _, _, h => h
  | v :: r, o, w1, h => by
    rw [World.setCells]
    exact grown_cells r (o + 1) (grown_setG h o v)
/-- 'clear(s)', the elements of whatever many cells. -/
theorem run_clear_cells {P : Program} (w : World) (t e ty : TypeId) (z : Value) (ht : P.underlying t = some (.slice e)) (hv : ∀ w, (zeroValue e).run P w = .ok z w) (h1 : ∀ v ∈ z.cells, v.oneCell' = true) (b o n c : Nat) (hn : 0 < n)
    (hc : ∀ j, j < n * z.cells.size → (w.cell? ⟨b, o + j, none⟩).isSome = true) (hf : ∀ j, j < n * z.cells.size → w.frozen? ⟨b, o + j, none⟩ = false) :
    (Builtin.clear_ #[t] ty #[.slice (some ⟨b, o, none⟩) n c]).run P w = .ok (.tuple #[]) (w.setCells b o (Builtin.zeroCells z.cells n).toList) := by
  have hlen : (Builtin.zeroCells z.cells n).toList.length = n * z.cells.size := by simp [Builtin.zeroCells]
  have hst := run_storeCells_cells (P := P) b o (Builtin.zeroCells z.cells n).toList 0 w (by rw [hlen]; simpa using hc) (by rw [hlen]; simpa using hf) (by
    intro v hv'
    simp [Builtin.zeroCells] at hv'
    obtain ⟨i, hi, rfl⟩ := hv'
    have hs : 0 < z.cells.size := by
      rcases Nat.eq_zero_or_pos z.cells.size with h | h
      · rw [h] at hi
        simp at hi
      · exact h
    rw [getElem!_pos z.cells _ (Nat.mod_lt _ hs)]
    exact h1 _ (Array.getElem_mem _))
  simp only [Nat.add_zero] at hst
  obtain ⟨m, rfl⟩ : ∃ m, n = m + 1 := ⟨n - 1, by omega⟩
  simp [Builtin.clear_, run_underlying ht, hv, hst]
set_option maxHeartbeats 8000000 in
set_option maxRecDepth 100000 in
theorem slices_CompactFunc_places (base : Nat) (v : Value) (l : List Place) (w : World) (h : Own Place.cells 4 57 w base v l) (hl : l.length ≤ 1048576) (hbs : base ≤ w.heap.size) :
    Calls Tryz.prog 68 #[v, .func (.func 69) #[] #[]] w fun e w' => ∃ v', e = .returned v' ∧ Own Place.cells 4 57 w' base v' (cmpaF l) ∧ w.grownBy w' v.ownBlock := by
  by_cases h2 : l.length < 2
  · obtain ⟨A, c, rfl⟩ := h.shape
    have hE : Hid (cmpaF l = l) := by
      show _ = _
      match l, h2 with
      | [], _ => rfl
      | [a], _ => rfl
    have h2' : ¬ 2 ≤ l.length := by omega
    go_enter Tryz.func68, Tryz.ntmps68
    go_wp2
    go_ret
    exact ⟨_, rfl, by rw [hE.out]; exact h, below_grownR (Below.refl _ _) _⟩
  · obtain ⟨g, c, rfl, hbg, hgl⟩ := own_form h (by omega)
    have hcap : l.length ≤ c := by
      rcases h.2 with ⟨hv, _⟩ | ⟨g', cap, cur, hv, _, _, h1, _⟩
      · cases hv
      · injection hv with _ _ hc
        omega
    have hI := Lib.hid (comp_start (l := l) (by omega))
    have h2' : 2 ≤ l.length := by omega
    go_enter Tryz.func68, Tryz.ntmps68
    go_wp2
    go_loopw [5, 6, 7] (fun i _ _ wr => ∃ m : Nat, m + 1 ≤ l.length ∧ i = .int .i64 ((m : Int) + 1) ∧ Hid (cmpaF l = l.take (m + 1) ++ compA l[m]! (l.drop (m + 1))) ∧ Below w.heap.size w wr) (fun i _ _ _ => l.length - (intOf i).toNat)
    case atStart => exact ⟨0, by omega, by simp, hI, Below.refl _ _⟩
    case round =>
      clear hI
      obtain ⟨m, hm, rfl, hI, hB⟩ := hrel
      by_cases hlt : m + 1 < l.length
      · have hO := h.now hB
        obtain ⟨-, -, -, c0, c1, c2, c3⟩ := own_places_at hO (m + 1) hlt
        obtain ⟨-, -, -, d0, d1, d2, d3⟩ := own_places_at hO m (by omega)
        obtain ⟨P, hP⟩ : ∃ P, l[m + 1] = P := ⟨_, rfl⟩
        obtain ⟨Q, hQ⟩ : ∃ Q, l[m] = Q := ⟨_, rfl⟩
        have hI2 := Lib.hid (comp_more hI.out hlt hP hQ)
        rw [hP] at c0 c1 c2 c3
        rw [hQ] at d0 d1 d2 d3
        have hT : Hid (l.take (m + 1) ++ [P] = l.take (m + 2)) := by
          show _ = _
          rw [← hP, List.take_add_one (i := m + 1), List.getElem?_eq_getElem hlt]
          rfl
        clear hP hQ hI
        obtain ⟨b, hb⟩ : ∃ b, keyEq P Q = b := ⟨_, rfl⟩
        rw [hb] at hI2
        have hbH := Lib.hid hb
        clear hb
        have i1 : (m : Int) + 1 < (l.length : Int) := by omega
        have wn : IntKind.i64.wrap (m : Int) = (m : Int) := IntWalk.i64_in _ (by omega)
        have i0 : (0 : Int) ≤ (m : Int) + 1 := by omega
        have i2 : (m : Int) < (l.length : Int) := by omega
        have tn : ((m : Int) + 1).toNat = m + 1 := by omega
        go_wp2
        refine wp_region_held_drew (S := fun w' => w'.cell? ⟨g, (m + 1) * 4, none⟩ = some (.int .i64 P.src) ∧ w'.cell? ⟨g, (m + 1) * 4 + 1, none⟩ = some (.int .i64 P.dst) ∧ w'.cell? ⟨g, (m + 1) * 4 + 2, none⟩ = some (.int .i64 P.delay) ∧ w'.cell? ⟨g, (m + 1) * 4 + 3, none⟩ = some (.int .i64 P.tokens) ∧ w'.cell? ⟨g, m * 4, none⟩ = some (.int .i64 Q.src) ∧ w'.cell? ⟨g, m * 4 + 1, none⟩ = some (.int .i64 Q.dst) ∧ w'.cell? ⟨g, m * 4 + 2, none⟩ = some (.int .i64 Q.delay) ∧ w'.cell? ⟨g, m * 4 + 3, none⟩ = some (.int .i64 Q.tokens)) (by kernel_rfl) ⟨c0, c1, c2, c3, d0, d1, d2, d3⟩ (fun hH => ?_)
        refine tkH 0 (v := ?_) rfl (fun _ _ _ h => h) (Or.inl ⟨by rfl, ?_⟩) hH ?_
        rotate_left
        · intro w9 hSw
          try dsimp only at hSw
          obtain ⟨s0, s1, s2, s3, s4, s5, s6, s7⟩ := hSw
          go_simp
          try with_reducible rfl
        try simp only [Act.put, List.setIfInBounds_toArray, List.set_cons_zero, List.set_cons_succ]
        refine tkH 1 (v := ?_) rfl (fun _ _ _ h => h) (Or.inl ⟨by rfl, ?_⟩) hH ?_
        rotate_left
        · intro w9 hSw
          try dsimp only at hSw
          obtain ⟨s0, s1, s2, s3, s4, s5, s6, s7⟩ := hSw
          go_simp
          try with_reducible rfl
        try simp only [Act.put, List.setIfInBounds_toArray, List.set_cons_zero, List.set_cons_succ]
        refine tkH 2 (v := ?_) rfl (fun _ _ _ h => h) (Or.inl ⟨by rfl, ?_⟩) hH ?_
        rotate_left
        · intro w9 hSw
          try dsimp only at hSw
          obtain ⟨s0, s1, s2, s3, s4, s5, s6, s7⟩ := hSw
          go_simp
          try with_reducible rfl
        try simp only [Act.put, List.setIfInBounds_toArray, List.set_cons_zero, List.set_cons_succ]
        refine tkH 3 (v := ?_) rfl (fun _ _ _ h => h) (Or.inl ⟨by rfl, ?_⟩) hH ?_
        rotate_left
        · intro w9 hSw
          try dsimp only at hSw
          obtain ⟨s0, s1, s2, s3, s4, s5, s6, s7⟩ := hSw
          go_simp
          try with_reducible rfl
        try simp only [Act.put, List.setIfInBounds_toArray, List.set_cons_zero, List.set_cons_succ]
        refine tkH 4 (v := ?_) rfl (fun _ _ _ h => h) (Or.inl ⟨by rfl, ?_⟩) hH ?_
        rotate_left
        · intro w9 hSw
          try dsimp only at hSw
          obtain ⟨s0, s1, s2, s3, s4, s5, s6, s7⟩ := hSw
          go_simp
          try with_reducible rfl
        try simp only [Act.put, List.setIfInBounds_toArray, List.set_cons_zero, List.set_cons_succ]
        refine tkH 5 (v := ?_) rfl (fun _ _ _ h => h) (Or.inl ⟨by rfl, ?_⟩) hH ?_
        rotate_left
        · intro w9 hSw
          try dsimp only at hSw
          obtain ⟨s0, s1, s2, s3, s4, s5, s6, s7⟩ := hSw
          go_simp
          try with_reducible rfl
        try simp only [Act.put, List.setIfInBounds_toArray, List.set_cons_zero, List.set_cons_succ]
        refine tkH 6 (v := ?_) rfl (fun _ _ _ h => h) (Or.inl ⟨by rfl, ?_⟩) hH ?_
        rotate_left
        · intro w9 hSw
          try dsimp only at hSw
          obtain ⟨s0, s1, s2, s3, s4, s5, s6, s7⟩ := hSw
          go_simp
          try with_reducible rfl
        try simp only [Act.put, List.setIfInBounds_toArray, List.set_cons_zero, List.set_cons_succ]
        refine tkH 7 (v := ?_) rfl (fun _ _ _ h => h) (Or.inl ⟨by rfl, ?_⟩) hH ?_
        rotate_left
        · intro w9 hSw
          try dsimp only at hSw
          obtain ⟨s0, s1, s2, s3, s4, s5, s6, s7⟩ := hSw
          go_simp
          try with_reducible rfl
        try simp only [Act.put, List.setIfInBounds_toArray, List.set_cons_zero, List.set_cons_succ]
        refine tkH 8 (v := ?_) rfl (fun _ _ _ h => h) (Or.inl ⟨by rfl, ?_⟩) hH ?_
        rotate_left
        · intro w9 hSw
          try dsimp only at hSw
          obtain ⟨s0, s1, s2, s3, s4, s5, s6, s7⟩ := hSw
          go_simp
          try with_reducible rfl
        try simp only [Act.put, List.setIfInBounds_toArray, List.set_cons_zero, List.set_cons_succ]
        refine tkH 9 (v := ?_) rfl (fun _ _ _ h => h) (Or.inl ⟨by rfl, ?_⟩) hH ?_
        rotate_left
        · intro w9 hSw
          try dsimp only at hSw
          obtain ⟨s0, s1, s2, s3, s4, s5, s6, s7⟩ := hSw
          go_simp
          try with_reducible rfl
        try simp only [Act.put, List.setIfInBounds_toArray, List.set_cons_zero, List.set_cons_succ]
        refine wpAnyH_ready (rs := [10]) (by kernel_rfl) (by simp) ?_
        refine AllReadyH.cons rfl (fun K hK => ?_) AllReadyH.nil
        go_simp
        refine (impl_simplified2 P Q _).mono ?_
        rintro e9 w9 ⟨rfl, hb9⟩
        rw [hbH.out]
        have ec0 := cell_keep (w := wr.drew) c0 hb9
        have ec1 := cell_keep (w := wr.drew) c1 hb9
        have ec2 := cell_keep (w := wr.drew) c2 hb9
        have ec3 := cell_keep (w := wr.drew) c3 hb9
        have ed0 := cell_keep (w := wr.drew) d0 hb9
        have ed1 := cell_keep (w := wr.drew) d1 hb9
        have ed2 := cell_keep (w := wr.drew) d2 hb9
        have ed3 := cell_keep (w := wr.drew) d3 hb9
        refine hK.out _ _ ⟨ec0, ec1, ec2, ec3, ed0, ed1, ed2, ed3⟩ (fun hH => ?_)
        clear hK K
        try simp only [Act.put, List.setIfInBounds_toArray, List.set_cons_zero, List.set_cons_succ]
        refine wpAnyH_done (by kernel_rfl) ?_ _
        have hBw : Below w.heap.size w w9 := hB.trans ((hb9.mono (Nat.le_refl _) : Below wr.heap.size wr.drew w9) |> fun t => Below.mono (⟨t.os, t.tape, t.output, t.size, t.block⟩ : Below wr.heap.size wr w9) hB.size)
        clear c0 c1 c2 c3 d0 d1 d2 d3 ec0 ec1 ec2 ec3 ed0 ed1 ed2 ed3 hb9 hbH wn
        cases b with
        | false =>
          have hI3 : Hid (cmpaF l = l.take (m + 2) ++ compA l[m + 1]! (l.drop (m + 2))) := by
            have := hI2.out
            rw [if_neg (by simp), hT.out] at this
            exact this
          clear hI2 hT
          go_wp2
          go_roundw
          case rel => exact ⟨m + 1, by omega, by go_num, hI3, hBw⟩
          case measure => simp [intOf]; omega
        | true =>
          have hI3 : Hid (cmpaF l = l.take (m + 1) ++ compA l[m + 1]! (l.drop (m + 2))) := by
            have := hI2.out
            rw [if_pos rfl] at this
            exact this
          clear hI2 hT
          have i5 : (m : Int) + 1 ≤ (c : Int) := by omega
          have i6 : (m : Int) + 1 ≤ (l.length : Int) := by omega
          go_wp2
          clear hH
          clear hH
          have hOw := h.now hBw
          go_loopw [5, 7] (fun iv jv w2 => ∃ (t : Nat) (R : List Place), m + t + 2 ≤ l.length ∧ R.length ≤ m + t + 1 ∧ iv = .int .i64 (R.length : Int) ∧ jv = .int .i64 ((t : Int) + 1) ∧ Hid (cmpaF l = R ++ compA l[m + t + 1]! (l.drop (m + t + 2))) ∧ Own Place.cells 4 57 w2 base (.slice (some ⟨g, 0, none⟩) l.length c) (R ++ l.drop R.length) ∧ w.grownBy w2 (some g)) (fun _ jv _ => l.length - (intOf jv).toNat)
          case atStart =>
            have e1 : (l.take (m + 1)).length = m + 1 := by simp; omega
            exact ⟨0, l.take (m + 1), by omega, by omega, by rw [e1]; simp, by simp, hI3, by rw [e1, List.take_append_drop]; exact hOw, below_grownR hBw _⟩
          case round =>
            clear hOw hI3
            obtain ⟨t, R, ht, hR, rfl, rfl, hJ, hO2, hB2⟩ := hrel
            have hXl := Lib.hid (row_len (l := l) (R := R) (by omega))
            by_cases hlt2 : m + t + 2 < l.length
            · obtain ⟨-, -, -, x0, x1, x2, x3⟩ := own_places_at hO2 (m + t + 2) (by rw [hXl.out]; exact hlt2)
              obtain ⟨-, -, -, y0, y1, y2, y3⟩ := own_places_at hO2 (m + t + 1) (by rw [hXl.out]; omega)
              rw [row_at hlt2 (by omega)] at x0 x1 x2 x3
              rw [row_at (by omega) hR] at y0 y1 y2 y3
              obtain ⟨P2, hP⟩ : ∃ P, l[m + t + 2] = P := ⟨_, rfl⟩
              obtain ⟨Q2, hQ⟩ : ∃ Q, l[m + t + 1] = Q := ⟨_, rfl⟩
              have hJ2 := Lib.hid (comp_more (m := m + t + 1) hJ.out hlt2 hP hQ)
              rw [hP] at x0 x1 x2 x3
              rw [hQ] at y0 y1 y2 y3
              rw [show (m + t + 2) * 4 = (m + 1) * 4 + (t + 1) * 4 by omega] at x0 x1 x2 x3
              rw [show (m + t + 1) * 4 = (m + 1) * 4 + t * 4 by omega] at y0 y1 y2 y3
              clear hP hQ hJ
              obtain ⟨b, hb⟩ : ∃ b, keyEq P2 Q2 = b := ⟨_, rfl⟩
              rw [hb] at hJ2
              have hbH := Lib.hid hb
              clear hb
              have i1 : (t : Int) + 1 < ((l.length - (m + 1) : Nat) : Int) := by omega
              have wn : IntKind.i64.wrap (t : Int) = (t : Int) := IntWalk.i64_in _ (by omega)
              have i0 : (0 : Int) ≤ (t : Int) + 1 := by omega
              have i2 : (t : Int) < ((l.length - (m + 1) : Nat) : Int) := by omega
              have tn : ((t : Int) + 1).toNat = t + 1 := by omega
              go_wp2
              refine wp_region_held_drew (S := fun w' => w'.cell? ⟨g, (m + 1) * 4 + (t + 1) * 4, none⟩ = some (.int .i64 P2.src) ∧ w'.cell? ⟨g, (m + 1) * 4 + (t + 1) * 4 + 1, none⟩ = some (.int .i64 P2.dst) ∧ w'.cell? ⟨g, (m + 1) * 4 + (t + 1) * 4 + 2, none⟩ = some (.int .i64 P2.delay) ∧ w'.cell? ⟨g, (m + 1) * 4 + (t + 1) * 4 + 3, none⟩ = some (.int .i64 P2.tokens) ∧ w'.cell? ⟨g, (m + 1) * 4 + t * 4, none⟩ = some (.int .i64 Q2.src) ∧ w'.cell? ⟨g, (m + 1) * 4 + t * 4 + 1, none⟩ = some (.int .i64 Q2.dst) ∧ w'.cell? ⟨g, (m + 1) * 4 + t * 4 + 2, none⟩ = some (.int .i64 Q2.delay) ∧ w'.cell? ⟨g, (m + 1) * 4 + t * 4 + 3, none⟩ = some (.int .i64 Q2.tokens)) (by kernel_rfl) ⟨x0, x1, x2, x3, y0, y1, y2, y3⟩ (fun hH => ?_)
              refine tkH 0 (v := ?_) rfl (fun _ _ _ h => h) (Or.inl ⟨by rfl, ?_⟩) hH ?_
              rotate_left
              · intro w9 hSw
                try dsimp only at hSw
                obtain ⟨s0, s1, s2, s3, s4, s5, s6, s7⟩ := hSw
                go_simp
                try with_reducible rfl
              try simp only [Act.put, List.setIfInBounds_toArray, List.set_cons_zero, List.set_cons_succ]
              refine tkH 1 (v := ?_) rfl (fun _ _ _ h => h) (Or.inl ⟨by rfl, ?_⟩) hH ?_
              rotate_left
              · intro w9 hSw
                try dsimp only at hSw
                obtain ⟨s0, s1, s2, s3, s4, s5, s6, s7⟩ := hSw
                go_simp
                try with_reducible rfl
              try simp only [Act.put, List.setIfInBounds_toArray, List.set_cons_zero, List.set_cons_succ]
              refine tkH 2 (v := ?_) rfl (fun _ _ _ h => h) (Or.inl ⟨by rfl, ?_⟩) hH ?_
              rotate_left
              · intro w9 hSw
                try dsimp only at hSw
                obtain ⟨s0, s1, s2, s3, s4, s5, s6, s7⟩ := hSw
                go_simp
                try with_reducible rfl
              try simp only [Act.put, List.setIfInBounds_toArray, List.set_cons_zero, List.set_cons_succ]
              refine tkH 3 (v := ?_) rfl (fun _ _ _ h => h) (Or.inl ⟨by rfl, ?_⟩) hH ?_
              rotate_left
              · intro w9 hSw
                try dsimp only at hSw
                obtain ⟨s0, s1, s2, s3, s4, s5, s6, s7⟩ := hSw
                go_simp
                try with_reducible rfl
              try simp only [Act.put, List.setIfInBounds_toArray, List.set_cons_zero, List.set_cons_succ]
              refine tkH 4 (v := ?_) rfl (fun _ _ _ h => h) (Or.inl ⟨by rfl, ?_⟩) hH ?_
              rotate_left
              · intro w9 hSw
                try dsimp only at hSw
                obtain ⟨s0, s1, s2, s3, s4, s5, s6, s7⟩ := hSw
                go_simp
                try with_reducible rfl
              try simp only [Act.put, List.setIfInBounds_toArray, List.set_cons_zero, List.set_cons_succ]
              refine tkH 5 (v := ?_) rfl (fun _ _ _ h => h) (Or.inl ⟨by rfl, ?_⟩) hH ?_
              rotate_left
              · intro w9 hSw
                try dsimp only at hSw
                obtain ⟨s0, s1, s2, s3, s4, s5, s6, s7⟩ := hSw
                go_simp
                try with_reducible rfl
              try simp only [Act.put, List.setIfInBounds_toArray, List.set_cons_zero, List.set_cons_succ]
              refine tkH 6 (v := ?_) rfl (fun _ _ _ h => h) (Or.inl ⟨by rfl, ?_⟩) hH ?_
              rotate_left
              · intro w9 hSw
                try dsimp only at hSw
                obtain ⟨s0, s1, s2, s3, s4, s5, s6, s7⟩ := hSw
                go_simp
                try with_reducible rfl
              try simp only [Act.put, List.setIfInBounds_toArray, List.set_cons_zero, List.set_cons_succ]
              refine tkH 7 (v := ?_) rfl (fun _ _ _ h => h) (Or.inl ⟨by rfl, ?_⟩) hH ?_
              rotate_left
              · intro w9 hSw
                try dsimp only at hSw
                obtain ⟨s0, s1, s2, s3, s4, s5, s6, s7⟩ := hSw
                go_simp
                try with_reducible rfl
              try simp only [Act.put, List.setIfInBounds_toArray, List.set_cons_zero, List.set_cons_succ]
              refine tkH 8 (v := ?_) rfl (fun _ _ _ h => h) (Or.inl ⟨by rfl, ?_⟩) hH ?_
              rotate_left
              · intro w9 hSw
                try dsimp only at hSw
                obtain ⟨s0, s1, s2, s3, s4, s5, s6, s7⟩ := hSw
                go_simp
                try with_reducible rfl
              try simp only [Act.put, List.setIfInBounds_toArray, List.set_cons_zero, List.set_cons_succ]
              refine tkH 9 (v := ?_) rfl (fun _ _ _ h => h) (Or.inl ⟨by rfl, ?_⟩) hH ?_
              rotate_left
              · intro w9 hSw
                try dsimp only at hSw
                obtain ⟨s0, s1, s2, s3, s4, s5, s6, s7⟩ := hSw
                go_simp
                try with_reducible rfl
              try simp only [Act.put, List.setIfInBounds_toArray, List.set_cons_zero, List.set_cons_succ]
              refine wpAnyH_ready (rs := [10]) (by kernel_rfl) (by simp) ?_
              refine AllReadyH.cons rfl (fun K hK => ?_) AllReadyH.nil
              go_simp
              refine (impl_simplified2 P2 Q2 _).mono ?_
              rintro e9 w8 ⟨rfl, hb9⟩
              rw [hbH.out]
              have ex0 := cell_keep (w := wr.drew) x0 hb9
              have ex1 := cell_keep (w := wr.drew) x1 hb9
              have ex2 := cell_keep (w := wr.drew) x2 hb9
              have ex3 := cell_keep (w := wr.drew) x3 hb9
              have ey0 := cell_keep (w := wr.drew) y0 hb9
              have ey1 := cell_keep (w := wr.drew) y1 hb9
              have ey2 := cell_keep (w := wr.drew) y2 hb9
              have ey3 := cell_keep (w := wr.drew) y3 hb9
              refine hK.out _ _ ⟨ex0, ex1, ex2, ex3, ey0, ey1, ey2, ey3⟩ (fun hH => ?_)
              clear hK K
              try simp only [Act.put, List.setIfInBounds_toArray, List.set_cons_zero, List.set_cons_succ]
              refine tkH 11 (v := ?_) rfl (fun _ _ _ h => h) (Or.inl ⟨by rfl, ?_⟩) hH ?_
              rotate_left
              · intro w9 hSw
                try dsimp only at hSw
                obtain ⟨s0, s1, s2, s3, s4, s5, s6, s7⟩ := hSw
                go_simp
                try with_reducible rfl
              try simp only [Act.put, List.setIfInBounds_toArray, List.set_cons_zero, List.set_cons_succ]
              refine wpAnyH_done (by kernel_rfl) ?_ _
              have hBq : Below wr.heap.size wr w8 := ⟨hb9.os, hb9.tape, hb9.output, hb9.size, hb9.block⟩
              have hO3 := hO2.now hBq
              have hB3 : w.grownBy w8 (some g) := grown_below hB2 hBq
              clear x0 x1 x2 x3 y0 y1 y2 y3 ey0 ey1 ey2 ey3 hb9 hbH wn hO2 hB2 hBq
              clear hH
              clear hH
              cases b with
              | true =>
                have hJ3 : Hid (cmpaF l = R ++ compA l[m + (t + 1) + 1]! (l.drop (m + (t + 1) + 2))) := by
                  have := hJ2.out
                  rw [if_pos rfl] at this
                  exact this
                clear hJ2
                go_wp2
                go_roundw
                case rel => exact ⟨t + 1, R, by omega, by omega, rfl, by go_num, hJ3, hO3, hB3⟩
                case measure => simp [intOf]; omega
              | false =>
                have hJ3 : Hid (cmpaF l = (R ++ [P2]) ++ compA l[m + (t + 1) + 1]! (l.drop (m + (t + 1) + 2))) := by
                  have := hJ2.out
                  rw [if_neg (by simp)] at this
                  exact this
                clear hJ2
                obtain ⟨-, lg, hfz, z0, z1, z2, z3⟩ := own_places_at hO3 R.length (by rw [hXl.out]; omega)
                have f0 := hfz (R.length * 4)
                have f1 := hfz (R.length * 4 + 1)
                have f2 := hfz (R.length * 4 + 2)
                have f3 := hfz (R.length * 4 + 3)
                have hO4 := hO3.setP R.length (by rw [hXl.out]; omega) P2
                rw [row_set (by omega)] at hO4
                have hB4 := grown_setG (grown_setG (grown_setG (grown_setG hB3 (R.length * 4) (.int .i64 P2.src)) (R.length * 4 + 1) (.int .i64 P2.dst)) (R.length * 4 + 2) (.int .i64 P2.delay)) (R.length * 4 + 3) (.int .i64 P2.tokens)
                have hO4 := Lib.hid hO4
                have hB4 := Lib.hid hB4
                clear hfz hO3 hB3
                have j1 : (R.length : Int) < (l.length : Int) := by omega
                go_wp2
                go_roundw
                case rel => exact ⟨t + 1, R ++ [P2], by omega, by simp; omega, by simp, by go_num, hJ3, hO4.out, hB4.out⟩
                case measure => simp [intOf]; omega
            · have i3 : ¬ (t : Int) + 1 < ((l.length - (m + 1) : Nat) : Int) := by omega
              have hE : Hid (cmpaF l = R) := by
                have := hJ.out
                rw [List.drop_of_length_le (by omega), compA_nil, List.append_nil] at this
                exact this
              have hHK := hO2.holdsK Place.cells 4 Place.cells_len
              have hsz : (flatK Place.cells 4 (R ++ l.drop R.length).toArray).size = l.length * 4 := by rw [size_flatK, List.size_toArray, hXl.out]
              have hz4 : (Value.agg #[.int .i64 0, .int .i64 0, .int .i64 0, .int .i64 0]).cells.size = 4 := by simp [Value.cells]
              have hcl := fun ty => run_clear_cells (P := Tryz.prog) wr 24 57 ty _ Tryz.underlying24 Tryz.zeroValue57 (by simp [Value.cells, Value.oneCell']) g (R.length * 4) (l.length - R.length) (c - R.length) (by omega)
                (fun j hj => by rw [hz4] at hj; have := (hHK (R.length * 4 + j) (by rw [hsz]; omega)).1; rw [Nat.zero_add] at this; rw [this]; rfl)
                (fun j hj => by rw [hz4] at hj; have := (hHK (R.length * 4 + j) (by rw [hsz]; omega)).2; rw [Nat.zero_add] at this; exact this)
              generalize (Builtin.zeroCells _ _).toList = Z at hcl
              have hO5 := Own.beyonds Z (R.length * 4) (own_cutS Place.cells_len hO2) (Nat.le_refl _)
              have hB5 := grown_cells Z (R.length * 4) hB2
              have hO5 := Lib.hid hO5
              have hB5 := Lib.hid hB5
              have j1 : (R.length : Int) ≤ (l.length : Int) := by omega
              have j2 : (R.length : Int) ≤ (c : Int) := by omega
              clear hHK hsz hz4 hO2 hB2 hJ hXl
              go_wp2
              go_ret
              exact ⟨_, rfl, by rw [hE.out]; exact hO5.out, hB5.out⟩
      · have i3 : ¬ (m : Int) + 1 < (l.length : Int) := by omega
        have hE : Hid (cmpaF l = l) := by
          have := hI.out
          rw [List.take_of_length_le (by omega), List.drop_of_length_le (by omega), compA_nil, List.append_nil] at this
          exact this
        go_wp2
        go_ret
        exact ⟨_, rfl, by rw [hE.out]; exact h.now hB, below_grownR hB _⟩
end Go.Proofs.YtcoomogabicfnaaGreatDoor
