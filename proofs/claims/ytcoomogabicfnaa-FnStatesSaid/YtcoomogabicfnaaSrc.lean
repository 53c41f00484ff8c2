/-
  The source of draws: what it is known to be, and the walks of its own functions.
-/
import Derived.Test.YtcoomogabicfnaaCore
import Derived.Test.YtcoomogabicfnaaCopy
namespace Go.Proofs.Ytcoomogabicfnaa
open Go.RowKit
set_option linter.unusedVariables false
set_option linter.unusedSimpArgs false
def byteCell (b : Int) : List Value := [.int .u8 b]
theorem byteCell_len (b : Int) : (byteCell b).length = 1 := rfl
theorem bytes_at {w : World} {B : Nat} {l : List Int} {A : Option Addr} {n c : Nat} (h : Lst byteCell 1 w B (.slice A n c) l) (k : Nat) (hk : k < l.length) :
    ∃ b off, A = some ⟨b, off, none⟩ ∧ b < B ∧ w.cell? ⟨b, off + k, none⟩ = some (.int .u8 l[k]) := by
  obtain ⟨b, off, c', hv, hb, hc⟩ := h.at_ byteCell_len k hk
  injection hv with hA _ _
  exact ⟨b, off, hA, hb, by simpa using hc 0 _ (by omega) rfl⟩
/-- A source of draws, in block g; its code lies below it. -/
def SrcAt (w : World) (g : Nat) (A : Option Addr) (n c : Nat) (at_ seed : Int) (bs : List Int) : Prop :=
  Blk w g 66 #[.slice A n c, .int .i64 at_, .int .i64 seed] ∧ bs.length = n ∧ Lst byteCell 1 w g (.slice A n c) bs ∧ (∀ b ∈ bs, 0 ≤ b ∧ b ≤ 255) ∧ (0 ≤ at_ ∧ at_ ≤ n) ∧ (0 ≤ seed ∧ seed < 2147483647) ∧ n ≤ 9223372036854775807
def Src (w : World) (g : Nat) : Prop := ∃ A n c at_ seed bs, SrcAt w g A n c at_ seed bs
theorem Src.lt {w : World} {g : Nat} (h : Src w g) : g < w.heap.size := by
  obtain ⟨A, n, c, a, s, bs, h, _⟩ := h
  exact h.lt
theorem lst_keep {α : Type} {f : α → List Value} {size B : Nat} {w w' : World} {v : Value} {l : List α} (h : Lst f size w B v l) (hk : ∀ b o, b < B → w'.cell? ⟨b, o, none⟩ = w.cell? ⟨b, o, none⟩) : Lst f size w' B v l := Row.keep h hk
theorem SrcAt.kept {w w' : World} {g : Nat} {A : Option Addr} {n c : Nat} {a s : Int} {bs : List Int} (h : SrcAt w g A n c a s bs) {row : Option Nat} (hG : w.grownBy w' row) (hr : ∀ k, row = some k → g < k) : SrcAt w' g A n c a s bs := by
  obtain ⟨h1, h2, h3, h4⟩ := h
  have hg := h1.lt
  refine ⟨h1.grown hG (fun e => by have := hr g e.symm; omega), h2, lst_keep h3 fun b o hb => ?_, h4⟩
  have h5 := hG.block b (by omega) (fun e => by have := hr b e.symm; omega)
  simp only [World.cell?, h5]
theorem Src.kept {w w' : World} {g : Nat} (h : Src w g) {row : Option Nat} (hG : w.grownBy w' row) (hr : ∀ k, row = some k → g < k) : Src w' g := by
  obtain ⟨A, n, c, a, s, bs, h⟩ := h
  exact ⟨A, n, c, a, s, bs, h.kept hG hr⟩
theorem Src.now {w w' : World} {g : Nat} (h : Src w g) (hb : Below w.heap.size w w') : Src w' g :=
  h.kept (row := none) ⟨hb.os, hb.tape, hb.output, hb.size, fun k hk _ => hb.block k hk⟩ (fun k e => by cases e)
theorem grown_trans {a b c : World} {r : Option Nat} (h1 : a.grownBy b r) (h2 : b.grownBy c r) : a.grownBy c r :=
  ⟨h2.os.trans h1.os, h2.tape.trans h1.tape, h2.output.trans h1.output, Nat.le_trans h1.size h2.size, fun k hk hne => (h2.block k (Nat.lt_of_lt_of_le hk h1.size) hne).trans (h1.block k hk hne)⟩
theorem grown_drew (w : World) (r : Option Nat) : w.grownBy w.drew r := ⟨rfl, rfl, rfl, Nat.le_refl _, fun _ _ _ => rfl⟩
theorem grown_setC (w : World) (p : Addr) (u : Value) : w.grownBy (w.setCell p u) (some p.block) :=
  ⟨rfl, rfl, rfl, by simp [World.setCell], fun i hi hne => Below.heap_setCell w p u i (by rintro rfl; exact hne rfl)⟩
theorem SrcAt.seedTo {w : World} {g : Nat} {A : Option Addr} {n c : Nat} {a s : Int} {bs : List Int} (h : SrcAt w g A n c a s bs) (s' : Int) (hs : 0 ≤ s' ∧ s' < 2147483647) : SrcAt (w.setCell ⟨g, 2, none⟩ (.int .i64 s')) g A n c a s' bs := by
  obtain ⟨h1, h2, h3, h4, h5, h6, h7⟩ := h
  refine ⟨by simpa using h1.set_ 2 (.int .i64 s'), h2, lst_keep h3 fun b o hb => ?_, h4, h5, hs, h7⟩
  exact World.cell?_setCell_far w ⟨g, 2, none⟩ ⟨b, o, none⟩ _ (by show g ≠ b; omega)
theorem SrcAt.atTo {w : World} {g : Nat} {A : Option Addr} {n c : Nat} {a s : Int} {bs : List Int} (h : SrcAt w g A n c a s bs) (a' : Int) (ha : 0 ≤ a' ∧ a' ≤ n) : SrcAt (w.setCell ⟨g, 1, none⟩ (.int .i64 a')) g A n c a' s bs := by
  obtain ⟨h1, h2, h3, h4, h5, h6, h7⟩ := h
  refine ⟨by simpa using h1.set_ 1 (.int .i64 a'), h2, lst_keep h3 fun b o hb => ?_, h4, ha, h6, h7⟩
  exact World.cell?_setCell_far w ⟨g, 1, none⟩ ⟨b, o, none⟩ _ (by show g ≠ b; omega)
theorem SrcAt.drew {w : World} {g : Nat} {A : Option Addr} {n c : Nat} {a s : Int} {bs : List Int} (h : SrcAt w g A n c a s bs) : SrcAt w.drew g A n c a s bs := h.kept (grown_drew w none) (fun k e => by cases e)
theorem SrcAt.cells {w : World} {g : Nat} {A : Option Addr} {n c : Nat} {a s : Int} {bs : List Int} (h : SrcAt w g A n c a s bs) : w.cell? ⟨g, 0, none⟩ = some (.slice A n c) ∧ w.cell? ⟨g, 1, none⟩ = some (.int .i64 a) ∧ w.cell? ⟨g, 2, none⟩ = some (.int .i64 s) ∧ (∀ j, w.frozen? ⟨g, j, none⟩ = false) ∧ g < w.heap.size :=
  ⟨h.1.c3.1, h.1.c3.2.1, h.1.c3.2.2, h.1.frozen, h.1.lt⟩
theorem tmod_rng (x : Int) (n : Int) (hx : 0 ≤ x) (hn : 0 < n) : 0 ≤ Int.tmod x n ∧ Int.tmod x n < n := by
  rw [Int.tmod_eq_emod_of_nonneg hx]
  exact ⟨Int.emod_nonneg _ (by omega), Int.emod_lt_of_pos _ hn⟩
/-- What a draw leaves: only the source has changed. -/
def Drawn (w : World) (g : Nat) (w' : World) : Prop := Src w' g ∧ w.grownBy w' (some g)
def NextOk (n x : Int) : Prop := 0 ≤ x ∧ (1 < n → x < n) ∧ (n ≤ 1 → x = 0)
set_option maxHeartbeats 4000000 in
set_option maxRecDepth 100000 in
theorem spec_l01Next (g : Nat) (m : Int) (w : World) (h : Src w g) (hm : m ≤ 9223372036854775807) :
    Calls Try.prog 30 #[.pointer (some ⟨g, 0, none⟩), .int .i64 m] w fun e w' => ∃ x, e = .returned (.int .i64 x) ∧ NextOk m x ∧ Drawn w g w' := by
  by_cases hm1 : m ≤ 1
  · go_enter Try.func30, Try.ntmps30
    go_wp2
    go_ret
    exact ⟨0, rfl, ⟨by omega, by omega, fun _ => rfl⟩, h, World.grownBy.refl _ _⟩
  · obtain ⟨A, n, c, at_, seed, bs, hS⟩ := h
    have hrest := hS.2
    obtain ⟨hbl, hL, hbv, hat, hsd, hn⟩ := hrest
    obtain ⟨e0, e1, e2, hf, hlt⟩ := hS.cells
    have w1 : IntKind.i64.wrap (seed * 48271) = seed * 48271 := IntWalk.i64_in _ (by omega)
    have w2 : IntKind.i64.wrap (seed * 48271 + 59) = seed * 48271 + 59 := IntWalk.i64_in _ (by omega)
    obtain ⟨hs1, hs2⟩ := tmod_rng (seed * 48271 + 59) 2147483647 (by omega) (by omega)
    obtain ⟨s2, hs2d⟩ : ∃ s2, Int.tmod (seed * 48271 + 59) 2147483647 = s2 := ⟨_, rfl⟩
    rw [hs2d] at hs1 hs2
    have w3 : IntKind.i64.wrap s2 = s2 := IntWalk.i64_in _ (by omega)
    have hS2 := hS.seedTo s2 ⟨hs1, hs2⟩
    have hG2 := grown_setC w ⟨g, 2, none⟩ (.int .i64 s2)
    have hxd : Int.tdiv s2 31 = s2 / 31 := Int.tdiv_eq_ediv_of_nonneg hs1
    have hx1 : 0 ≤ s2 / 31 ∧ s2 / 31 ≤ 2147483647 := by omega
    obtain ⟨x, hxv⟩ : ∃ x, s2 / 31 = x := ⟨_, rfl⟩
    rw [hxv] at hxd hx1
    have w4 : IntKind.i64.wrap x = x := IntWalk.i64_in _ (by omega)
    have hx1' := Lib.hid hx1
    have hat' := Lib.hid hat
    have hbv' := Lib.hid hbv
    clear hxv hx1
    go_enter Try.func30, Try.ntmps30
    go_wp2
    clear e0 e1 e2 hf hlt w1 w2 w3 w4 hs2d hxd hS
    generalize w.setCell ⟨g, 2, none⟩ (.int .i64 s2) = V at *
    have hS3 := hS2.drew
    have hG3 := grown_trans hG2 (grown_drew V (some g))
    obtain ⟨z0, z1, _, hf, hlt⟩ := hS3.cells
    refine wp_region_held_drew (S := fun w' => w'.cell? ⟨g, 0, none⟩ = some (.slice A n c) ∧ w'.cell? ⟨g, 1, none⟩ = some (.int .i64 at_)) (by kernel_rfl) ⟨z0, z1⟩ (fun hH => ?_)
    refine tkH 0 (v := ?_) rfl (fun _ _ _ h => h) (Or.inl ⟨by rfl, ?_⟩) hH ?_
    rotate_left
    · intro w9 hSw
      try dsimp only at hSw
      obtain ⟨s0, s1⟩ := hSw
      go_simp
      try with_reducible rfl
    try simp only [Act.put, List.setIfInBounds_toArray, List.set_cons_zero, List.set_cons_succ]
    refine tkH 1 (v := ?_) rfl (fun _ _ _ h => h) (Or.inl ⟨by rfl, ?_⟩) hH ?_
    rotate_left
    · intro w9 hSw
      try dsimp only at hSw
      obtain ⟨s0, s1⟩ := hSw
      go_simp
      try with_reducible rfl
    try simp only [Act.put, List.setIfInBounds_toArray, List.set_cons_zero, List.set_cons_succ]
    refine tkH 2 (v := ?_) rfl (fun _ _ _ h => h) (Or.inl ⟨by rfl, ?_⟩) hH ?_
    rotate_left
    · intro w9 hSw
      try dsimp only at hSw
      obtain ⟨s0, s1⟩ := hSw
      go_simp
      try with_reducible rfl
    try simp only [Act.put, List.setIfInBounds_toArray, List.set_cons_zero, List.set_cons_succ]
    refine tkH 3 (v := ?_) rfl (fun _ _ _ h => h) (Or.inl ⟨by rfl, ?_⟩) hH ?_
    rotate_left
    · intro w9 hSw
      try dsimp only at hSw
      obtain ⟨s0, s1⟩ := hSw
      go_simp
      try with_reducible rfl
    try simp only [Act.put, List.setIfInBounds_toArray, List.set_cons_zero, List.set_cons_succ]
    refine tkH 4 (v := ?_) rfl (fun _ _ _ h => h) (Or.inl ⟨by rfl, ?_⟩) hH ?_
    rotate_left
    · intro w9 hSw
      try dsimp only at hSw
      obtain ⟨s0, s1⟩ := hSw
      go_simp
      try with_reducible rfl
    try simp only [Act.put, List.setIfInBounds_toArray, List.set_cons_zero, List.set_cons_succ]
    refine tkH 5 (v := ?_) rfl (fun _ _ _ h => h) (Or.inl ⟨by rfl, ?_⟩) hH ?_
    rotate_left
    · intro w9 hSw
      try dsimp only at hSw
      obtain ⟨s0, s1⟩ := hSw
      go_simp
      try with_reducible rfl
    try simp only [Act.put, List.setIfInBounds_toArray, List.set_cons_zero, List.set_cons_succ]
    refine tkH 6 (v := ?_) rfl (fun _ _ _ h => h) (Or.inl ⟨by rfl, ?_⟩) hH ?_
    rotate_left
    · intro w9 hSw
      try dsimp only at hSw
      obtain ⟨s0, s1⟩ := hSw
      go_simp
      try with_reducible rfl
    try simp only [Act.put, List.setIfInBounds_toArray, List.set_cons_zero, List.set_cons_succ]
    refine tkH 7 (v := ?_) rfl (fun _ _ _ h => h) (Or.inl ⟨by rfl, ?_⟩) hH ?_
    rotate_left
    · intro w9 hSw
      try dsimp only at hSw
      obtain ⟨s0, s1⟩ := hSw
      go_simp
      try with_reducible rfl
    try simp only [Act.put, List.setIfInBounds_toArray, List.set_cons_zero, List.set_cons_succ]
    refine tkH 8 (v := ?_) rfl (fun _ _ _ h => h) (Or.inl ⟨by rfl, ?_⟩) hH ?_
    rotate_left
    · intro w9 hSw
      try dsimp only at hSw
      obtain ⟨s0, s1⟩ := hSw
      go_simp
      try with_reducible rfl
    try simp only [Act.put, List.setIfInBounds_toArray, List.set_cons_zero, List.set_cons_succ]
    refine tkH 9 (v := ?_) rfl (fun _ _ _ h => h) (Or.inl ⟨by rfl, ?_⟩) hH ?_
    rotate_left
    · intro w9 hSw
      try dsimp only at hSw
      obtain ⟨s0, s1⟩ := hSw
      go_simp
      try with_reducible rfl
    try simp only [Act.put, List.setIfInBounds_toArray, List.set_cons_zero, List.set_cons_succ]
    refine wpAnyH_done (by kernel_rfl) ?_ _
    clear hH
    generalize V.drew = V at *
    have fin : ∀ (X : Int) (W : World), 0 ≤ X → SrcAt W g A n c (match W.cell? ⟨g, 1, none⟩ with | some (.int _ q) => q | _ => 0) s2 bs → True := fun _ _ _ _ => trivial
    have wm : ∀ X : Int, 0 ≤ X → IntKind.i64.wrap (Int.tmod X m) = Int.tmod X m := fun X hX => IntWalk.i64_in _ (by have := tmod_rng X m hX (by omega); omega)
    have wm' := Lib.hid wm
    have nx : ∀ X : Int, 0 ≤ X → NextOk m (Int.tmod X m) := fun X hX => by have := tmod_rng X m hX (by omega); exact ⟨this.1, fun _ => this.2, fun h => absurd h (by omega)⟩
    have nx' := Lib.hid nx
    clear fin wm nx
    by_cases hlt2 : at_ < (n : Int)
    · obtain ⟨k, hk⟩ := Int.eq_ofNat_of_zero_le hat'.out.1
      subst hk
      have hkn : k < bs.length := by omega
      obtain ⟨b, off, hA, hb, hc⟩ := bytes_at hS3.2.2.1 k hkn
      cases hA
      have hbb := hbv'.out _ (List.getElem_mem hkn)
      obtain ⟨bv, hbvd⟩ : ∃ bv, bs[k] = bv := ⟨_, rfl⟩
      rw [hbvd] at hc hbb
      clear hbvd
      have hxx := hx1'.out
      have w5 : IntKind.i64.wrap bv = bv := IntWalk.i64_in _ (by omega)
      have w6 : IntKind.i64.wrap (x + bv) = x + bv := IntWalk.i64_in _ (by omega)
      have w7 : IntKind.i64.wrap ((k : Int) + 1) = (k : Int) + 1 := IntWalk.i64_in _ (by omega)
      have w8 : IntKind.i64.wrap (k : Int) = (k : Int) := IntWalk.i64_in _ (by omega)
      have i1 : (0 : Int) ≤ (k : Int) := by omega
      have i2 : (k : Int) < (n : Int) := by omega
      go_wp2
      clear z0 z1 hf hlt
      have hS4 := hS3.drew
      have hG4 := grown_trans hG3 (grown_drew V (some g))
      have hBd : Below V.heap.size V V.drew := Below.drew (Below.refl _ V)
      have y2 := cell_keep hc hBd
      obtain ⟨y0, y1, _, hf, hlt⟩ := hS4.cells
      refine wp_region_held_drew (S := fun w' => w'.cell? ⟨g, 0, none⟩ = some (.slice (some ⟨b, off, none⟩) n c) ∧ w'.cell? ⟨g, 1, none⟩ = some (.int .i64 (k : Nat)) ∧ w'.cell? ⟨b, off + k, none⟩ = some (.int .u8 bv)) (by kernel_rfl) ⟨y0, y1, y2⟩ (fun hH => ?_)
      refine tkH 0 (v := ?_) rfl (fun _ _ _ h => h) (Or.inl ⟨by rfl, ?_⟩) hH ?_
      rotate_left
      · intro w9 hSw
        try dsimp only at hSw
        obtain ⟨s0, s1, s2⟩ := hSw
        go_simp
        try with_reducible rfl
      try simp only [Act.put, List.setIfInBounds_toArray, List.set_cons_zero, List.set_cons_succ]
      refine tkH 1 (v := ?_) rfl (fun _ _ _ h => h) (Or.inl ⟨by rfl, ?_⟩) hH ?_
      rotate_left
      · intro w9 hSw
        try dsimp only at hSw
        obtain ⟨s0, s1, s2⟩ := hSw
        go_simp
        try with_reducible rfl
      try simp only [Act.put, List.setIfInBounds_toArray, List.set_cons_zero, List.set_cons_succ]
      refine tkH 2 (v := ?_) rfl (fun _ _ _ h => h) (Or.inl ⟨by rfl, ?_⟩) hH ?_
      rotate_left
      · intro w9 hSw
        try dsimp only at hSw
        obtain ⟨s0, s1, s2⟩ := hSw
        go_simp
        try with_reducible rfl
      try simp only [Act.put, List.setIfInBounds_toArray, List.set_cons_zero, List.set_cons_succ]
      refine tkH 3 (v := ?_) rfl (fun _ _ _ h => h) (Or.inl ⟨by rfl, ?_⟩) hH ?_
      rotate_left
      · intro w9 hSw
        try dsimp only at hSw
        obtain ⟨s0, s1, s2⟩ := hSw
        go_simp
        try with_reducible rfl
      try simp only [Act.put, List.setIfInBounds_toArray, List.set_cons_zero, List.set_cons_succ]
      refine tkH 4 (v := ?_) rfl (fun _ _ _ h => h) (Or.inl ⟨by rfl, ?_⟩) hH ?_
      rotate_left
      · intro w9 hSw
        try dsimp only at hSw
        obtain ⟨s0, s1, s2⟩ := hSw
        go_simp
        try with_reducible rfl
      try simp only [Act.put, List.setIfInBounds_toArray, List.set_cons_zero, List.set_cons_succ]
      refine tkH 5 (v := ?_) rfl (fun _ _ _ h => h) (Or.inl ⟨by rfl, ?_⟩) hH ?_
      rotate_left
      · intro w9 hSw
        try dsimp only at hSw
        obtain ⟨s0, s1, s2⟩ := hSw
        go_simp
        try with_reducible rfl
      try simp only [Act.put, List.setIfInBounds_toArray, List.set_cons_zero, List.set_cons_succ]
      refine tkH 6 (v := ?_) rfl (fun _ _ _ h => h) (Or.inl ⟨by rfl, ?_⟩) hH ?_
      rotate_left
      · intro w9 hSw
        try dsimp only at hSw
        obtain ⟨s0, s1, s2⟩ := hSw
        go_simp
        try with_reducible rfl
      try simp only [Act.put, List.setIfInBounds_toArray, List.set_cons_zero, List.set_cons_succ]
      refine tkH 7 (v := ?_) rfl (fun _ _ _ h => h) (Or.inl ⟨by rfl, ?_⟩) hH ?_
      rotate_left
      · intro w9 hSw
        try dsimp only at hSw
        obtain ⟨s0, s1, s2⟩ := hSw
        go_simp
        try with_reducible rfl
      try simp only [Act.put, List.setIfInBounds_toArray, List.set_cons_zero, List.set_cons_succ]
      refine tkH 8 (v := ?_) rfl (fun _ _ _ h => h) (Or.inl ⟨by rfl, ?_⟩) hH ?_
      rotate_left
      · intro w9 hSw
        try dsimp only at hSw
        obtain ⟨s0, s1, s2⟩ := hSw
        go_simp
        try with_reducible rfl
      try simp only [Act.put, List.setIfInBounds_toArray, List.set_cons_zero, List.set_cons_succ]
      refine tkH 9 (v := ?_) rfl (fun _ _ _ h => h) (Or.inl ⟨by rfl, ?_⟩) hH ?_
      rotate_left
      · intro w9 hSw
        try dsimp only at hSw
        obtain ⟨s0, s1, s2⟩ := hSw
        go_simp
        try with_reducible rfl
      try simp only [Act.put, List.setIfInBounds_toArray, List.set_cons_zero, List.set_cons_succ]
      refine tkH 10 (v := ?_) rfl (fun _ _ _ h => h) (Or.inl ⟨by rfl, ?_⟩) hH ?_
      rotate_left
      · intro w9 hSw
        try dsimp only at hSw
        obtain ⟨s0, s1, s2⟩ := hSw
        go_simp
        try with_reducible rfl
      try simp only [Act.put, List.setIfInBounds_toArray, List.set_cons_zero, List.set_cons_succ]
      refine tkH 11 (v := ?_) rfl (fun _ _ _ h => h) (Or.inl ⟨by rfl, ?_⟩) hH ?_
      rotate_left
      · intro w9 hSw
        try dsimp only at hSw
        obtain ⟨s0, s1, s2⟩ := hSw
        go_simp
        try with_reducible rfl
      try simp only [Act.put, List.setIfInBounds_toArray, List.set_cons_zero, List.set_cons_succ]
      refine tkH 12 (v := ?_) rfl (fun _ _ _ h => h) (Or.inl ⟨by rfl, ?_⟩) hH ?_
      rotate_left
      · intro w9 hSw
        try dsimp only at hSw
        obtain ⟨s0, s1, s2⟩ := hSw
        go_simp
        try with_reducible rfl
      try simp only [Act.put, List.setIfInBounds_toArray, List.set_cons_zero, List.set_cons_succ]
      refine tkH 13 (v := ?_) rfl (fun _ _ _ h => h) (Or.inl ⟨by rfl, ?_⟩) hH ?_
      rotate_left
      · intro w9 hSw
        try dsimp only at hSw
        obtain ⟨s0, s1, s2⟩ := hSw
        go_simp
        try with_reducible rfl
      try simp only [Act.put, List.setIfInBounds_toArray, List.set_cons_zero, List.set_cons_succ]
      refine wpAnyH_done (by kernel_rfl) ?_ _
      clear hH hc y0 y1
      generalize V.drew = V at *
      have hS5 := hS4.atTo ((k : Int) + 1) (by omega)
      have hG5 := grown_trans hG4 (grown_setC V ⟨g, 1, none⟩ (.int .i64 ((k : Int) + 1)))
      have y3 : (V.setCell ⟨g, 1, none⟩ (.int .i64 ((k : Int) + 1))).cell? ⟨b, off + k, none⟩ = some (.int .u8 bv) := (World.cell?_setCell_far V ⟨g, 1, none⟩ ⟨b, off + k, none⟩ _ (by show g ≠ b; omega)).trans y2
      obtain ⟨rm, hrm⟩ : ∃ rm, Int.tmod ((k : Int) + 1) 2 = rm := ⟨_, rfl⟩
      have hrr := tmod_rng ((k : Int) + 1) 2 (by omega) (by omega)
      rw [hrm] at hrr
      have w9 : IntKind.i64.wrap rm = rm := IntWalk.i64_in _ (by omega)
      have wa : IntKind.i64.wrap ((k : Int) + 1 - 1) = (k : Int) := by rw [IntWalk.i64_in _ (by omega)]; omega
      have hr1 := wm'.out (x + bv) (by omega)
      have hr2 := wm'.out bv hbb.1
      have ok1 : Hid (0 ≤ x + bv) := by show _ ≤ _; omega
      have ok2 : Hid (0 ≤ bv) := hbb.1
      obtain ⟨c0, c1, _, hf, hlt⟩ := hS4.cells
      obtain ⟨x0, x1, _, hf5, hlt5⟩ := hS5.cells
      have hxbH := Lib.hid hxx
      have hbbH := Lib.hid hbb
      clear hxx hbb hrr
      by_cases h256 : m ≤ 256
      · by_cases hev : rm = 0
        · have hq : (rm == 0) = true := by simp [hev]
          clear hev
          go_wp2
          clear hf hlt c0 c1 hf5 hlt5 x0 x1
          have hS6 := hS5.drew
          have hG6 := grown_trans hG5 (grown_drew _ (some g))
          have x2 := cell_keep y3 (Below.drew (Below.refl _ (V.setCell ⟨g, 1, none⟩ (.int .i64 ((k : Int) + 1)))))
          obtain ⟨x0, x1, _, hf, hlt⟩ := hS6.cells
          generalize V.setCell ⟨g, 1, none⟩ (.int .i64 ((k : Int) + 1)) = V at *
          refine wp_region_held_drew (S := fun w' => w'.cell? ⟨g, 0, none⟩ = some (.slice (some ⟨b, off, none⟩) n c) ∧ w'.cell? ⟨g, 1, none⟩ = some (.int .i64 ((k : Int) + 1)) ∧ w'.cell? ⟨b, off + k, none⟩ = some (.int .u8 bv)) (by kernel_rfl) ⟨x0, x1, x2⟩ (fun hH => ?_)
          refine tkH 0 (v := ?_) rfl (fun _ _ _ h => h) (Or.inl ⟨by rfl, ?_⟩) hH ?_
          rotate_left
          · intro w9 hSw
            try dsimp only at hSw
            obtain ⟨s0, s1, s2⟩ := hSw
            go_simp
            try with_reducible rfl
          try simp only [Act.put, List.setIfInBounds_toArray, List.set_cons_zero, List.set_cons_succ]
          refine tkH 1 (v := ?_) rfl (fun _ _ _ h => h) (Or.inl ⟨by rfl, ?_⟩) hH ?_
          rotate_left
          · intro w9 hSw
            try dsimp only at hSw
            obtain ⟨s0, s1, s2⟩ := hSw
            go_simp
            try with_reducible rfl
          try simp only [Act.put, List.setIfInBounds_toArray, List.set_cons_zero, List.set_cons_succ]
          refine tkH 2 (v := ?_) rfl (fun _ _ _ h => h) (Or.inl ⟨by rfl, ?_⟩) hH ?_
          rotate_left
          · intro w9 hSw
            try dsimp only at hSw
            obtain ⟨s0, s1, s2⟩ := hSw
            go_simp
            try with_reducible rfl
          try simp only [Act.put, List.setIfInBounds_toArray, List.set_cons_zero, List.set_cons_succ]
          refine tkH 3 (v := ?_) rfl (fun _ _ _ h => h) (Or.inl ⟨by rfl, ?_⟩) hH ?_
          rotate_left
          · intro w9 hSw
            try dsimp only at hSw
            obtain ⟨s0, s1, s2⟩ := hSw
            go_simp
            try with_reducible rfl
          try simp only [Act.put, List.setIfInBounds_toArray, List.set_cons_zero, List.set_cons_succ]
          refine tkH 4 (v := ?_) rfl (fun _ _ _ h => h) (Or.inl ⟨by rfl, ?_⟩) hH ?_
          rotate_left
          · intro w9 hSw
            try dsimp only at hSw
            obtain ⟨s0, s1, s2⟩ := hSw
            go_simp
            try with_reducible rfl
          try simp only [Act.put, List.setIfInBounds_toArray, List.set_cons_zero, List.set_cons_succ]
          refine tkH 5 (v := ?_) rfl (fun _ _ _ h => h) (Or.inl ⟨by rfl, ?_⟩) hH ?_
          rotate_left
          · intro w9 hSw
            try dsimp only at hSw
            obtain ⟨s0, s1, s2⟩ := hSw
            go_simp
            try with_reducible rfl
          try simp only [Act.put, List.setIfInBounds_toArray, List.set_cons_zero, List.set_cons_succ]
          refine tkH 6 (v := ?_) rfl (fun _ _ _ h => h) (Or.inl ⟨by rfl, ?_⟩) hH ?_
          rotate_left
          · intro w9 hSw
            try dsimp only at hSw
            obtain ⟨s0, s1, s2⟩ := hSw
            go_simp
            try with_reducible rfl
          try simp only [Act.put, List.setIfInBounds_toArray, List.set_cons_zero, List.set_cons_succ]
          refine tkH 7 (v := ?_) rfl (fun _ _ _ h => h) (Or.inl ⟨by rfl, ?_⟩) hH ?_
          rotate_left
          · intro w9 hSw
            try dsimp only at hSw
            obtain ⟨s0, s1, s2⟩ := hSw
            go_simp
            try with_reducible rfl
          try simp only [Act.put, List.setIfInBounds_toArray, List.set_cons_zero, List.set_cons_succ]
          refine tkH 8 (v := ?_) rfl (fun _ _ _ h => h) (Or.inl ⟨by rfl, ?_⟩) hH ?_
          rotate_left
          · intro w9 hSw
            try dsimp only at hSw
            obtain ⟨s0, s1, s2⟩ := hSw
            go_simp
            try with_reducible rfl
          try simp only [Act.put, List.setIfInBounds_toArray, List.set_cons_zero, List.set_cons_succ]
          refine tkH 9 (v := ?_) rfl (fun _ _ _ h => h) (Or.inl ⟨by rfl, ?_⟩) hH ?_
          rotate_left
          · intro w9 hSw
            try dsimp only at hSw
            obtain ⟨s0, s1, s2⟩ := hSw
            go_simp
            try with_reducible rfl
          try simp only [Act.put, List.setIfInBounds_toArray, List.set_cons_zero, List.set_cons_succ]
          refine tkH 10 (v := ?_) rfl (fun _ _ _ h => h) (Or.inl ⟨by rfl, ?_⟩) hH ?_
          rotate_left
          · intro w9 hSw
            try dsimp only at hSw
            obtain ⟨s0, s1, s2⟩ := hSw
            go_simp
            try with_reducible rfl
          try simp only [Act.put, List.setIfInBounds_toArray, List.set_cons_zero, List.set_cons_succ]
          refine tkH 11 (v := ?_) rfl (fun _ _ _ h => h) (Or.inl ⟨by rfl, ?_⟩) hH ?_
          rotate_left
          · intro w9 hSw
            try dsimp only at hSw
            obtain ⟨s0, s1, s2⟩ := hSw
            go_simp
            try with_reducible rfl
          try simp only [Act.put, List.setIfInBounds_toArray, List.set_cons_zero, List.set_cons_succ]
          refine tkH 12 (v := ?_) rfl (fun _ _ _ h => h) (Or.inl ⟨by rfl, ?_⟩) hH ?_
          rotate_left
          · intro w9 hSw
            try dsimp only at hSw
            obtain ⟨s0, s1, s2⟩ := hSw
            go_simp
            try with_reducible rfl
          try simp only [Act.put, List.setIfInBounds_toArray, List.set_cons_zero, List.set_cons_succ]
          refine wpAnyH_done (by kernel_rfl) ?_ _
          go_wp2
          go_ret
          exact ⟨_, rfl, nx'.out _ ok2.out, ⟨_, _, _, _, _, _, hS6⟩, hG6⟩
        · have hq : (rm == 0) = false := by simpa using hev
          clear hev
          go_wp2
          go_ret
          exact ⟨_, rfl, nx'.out _ ok1.out, ⟨_, _, _, _, _, _, hS5⟩, hG5⟩
      · go_wp2
        go_ret
        exact ⟨_, rfl, nx'.out _ ok1.out, ⟨_, _, _, _, _, _, hS5⟩, hG5⟩
    · have hr := wm'.out x hx1'.out.1
      go_wp2
      go_ret
      exact ⟨_, rfl, nx'.out x hx1'.out.1, ⟨_, _, _, _, _, _, hS3⟩, hG3⟩
set_option maxHeartbeats 4000000 in
set_option maxRecDepth 100000 in
theorem spec_l01From (v : Value) (bs : List Int) (w : World) (h0 : Lst byteCell 1 w w.heap.size v bs) (hbv : Hid (∀ b ∈ bs, 0 ≤ b ∧ b ≤ 255)) :
    Calls Try.prog 20 #[v] w fun e w' => e = .returned (.pointer (some ⟨w.heap.size, 0, none⟩)) ∧ Src w' w.heap.size ∧ Below w.heap.size w w' := by
  obtain ⟨A, c, rfl⟩ := h0.shape
  have hl := h0.len_le
  go_enter Try.func20, Try.ntmps20
  go_wp2
  have hA : Below w.heap.size w (w.alloc (.cells #[.slice A bs.length c, .int .i64 0, .int .i64 61403] 66)) := (Below.refl _ _).alloc (Nat.le_refl _) _
  have hS0 : SrcAt (w.alloc (.cells #[.slice A bs.length c, .int .i64 0, .int .i64 61403] 66)) w.heap.size A bs.length c 0 61403 bs := ⟨Blk.new _ _ _, rfl, lst_keep h0 (fun b o hb => hA.cell (p := ⟨b, o, none⟩) hb), hbv.out, by omega, by omega, hl⟩
  go_loopw [4] (fun i wr => ∃ (k : Nat) (seed : Int), k ≤ bs.length ∧ i = .int .i64 k ∧ SrcAt wr w.heap.size A bs.length c 0 seed bs ∧ Below w.heap.size w wr) (fun i _ => bs.length - (intOf i).toNat)
  case atStart => exact ⟨0, _, Nat.zero_le _, rfl, hS0, hA⟩
  case round =>
    clear hS0 hA
    obtain ⟨k, seed, hk, rfl, hS, hB⟩ := hrel
    by_cases hlt : k < bs.length
    · by_cases h64 : (k : Int) < 64
      · obtain ⟨b, off, hA, hb, hc⟩ := bytes_at hS.2.2.1 k hlt
        cases hA
        have hbb := hbv.out _ (List.getElem_mem hlt)
        obtain ⟨bv, hbvd⟩ : ∃ bv, bs[k] = bv := ⟨_, rfl⟩
        rw [hbvd] at hc hbb
        clear hbvd
        have hsd := hS.2.2.2.2.2.1
        have w5 : IntKind.i64.wrap bv = bv := IntWalk.i64_in _ (by omega)
        have w1 : IntKind.i64.wrap (seed * 67) = seed * 67 := IntWalk.i64_in _ (by omega)
        have w2 : IntKind.i64.wrap (seed * 67 + bv) = seed * 67 + bv := IntWalk.i64_in _ (by omega)
        have hs2 := tmod_rng (seed * 67 + bv) 2147483647 (by omega) (by omega)
        obtain ⟨s2, hs2d⟩ : ∃ s2, Int.tmod (seed * 67 + bv) 2147483647 = s2 := ⟨_, rfl⟩
        rw [hs2d] at hs2
        have w3 : IntKind.i64.wrap s2 = s2 := IntWalk.i64_in _ (by omega)
        have hS2 := Lib.hid (hS.drew.seedTo s2 hs2)
        have hBd : Below wr.heap.size wr wr.drew := Below.drew (Below.refl _ wr)
        have hB2 := Lib.hid ((hB.trans (hBd.mono hB.size)).setCell (p := ⟨w.heap.size, 2, none⟩) (Nat.le_refl _) (.int .i64 s2))
        obtain ⟨_, _, e2, hf, hl2⟩ := hS.cells
        have z0 := cell_keep e2 hBd
        have z1 := cell_keep hc hBd
        have i1 : (0 : Int) ≤ (k : Int) := by omega
        have i2 : (k : Int) < (bs.length : Int) := by omega
        clear hsd hs2 hbb e2 hc hS hB
        go_wp2_with fail
        refine wp_region_E (fun w' => w'.cell? ⟨w.heap.size, 2, none⟩ = some (.int .i64 seed) ∧ w'.cell? ⟨b, off + k, none⟩ = some (.int .u8 bv)) 15 (by kernel_rfl) ?_
        have hS0 : (fun w' : World => w'.cell? ⟨w.heap.size, 2, none⟩ = some (.int .i64 seed) ∧ w'.cell? ⟨b, off + k, none⟩ = some (.int .u8 bv)) wr.drew := ⟨z0, z1⟩
        refine wpAnyE_take (i := 0) (v := ?_) rfl (by kernel_rfl) (by kernel_rfl) (by kernel_rfl) (by kernel_rfl) (by kernel_rfl) (fun _ _ _ h => h) hS0 (by rfl) ?_ ?_
        rotate_left
        · intro w9 hSw
          try dsimp only at hSw
          obtain ⟨s0, s1⟩ := hSw
          go_simp
          try with_reducible rfl
        try simp only [Act.put, List.setIfInBounds_toArray, List.set_cons_zero, List.set_cons_succ]
        refine wpAnyE_take (i := 1) (v := ?_) rfl (by kernel_rfl) (by kernel_rfl) (by kernel_rfl) (by kernel_rfl) (by kernel_rfl) (fun _ _ _ h => h) hS0 (by rfl) ?_ ?_
        rotate_left
        · intro w9 hSw
          try dsimp only at hSw
          obtain ⟨s0, s1⟩ := hSw
          go_simp
          try with_reducible rfl
        try simp only [Act.put, List.setIfInBounds_toArray, List.set_cons_zero, List.set_cons_succ]
        refine wpAnyE_take (i := 2) (v := ?_) rfl (by kernel_rfl) (by kernel_rfl) (by kernel_rfl) (by kernel_rfl) (by kernel_rfl) (fun _ _ _ h => h) hS0 (by rfl) ?_ ?_
        rotate_left
        · intro w9 hSw
          try dsimp only at hSw
          obtain ⟨s0, s1⟩ := hSw
          go_simp
          try with_reducible rfl
        try simp only [Act.put, List.setIfInBounds_toArray, List.set_cons_zero, List.set_cons_succ]
        refine wpAnyE_take (i := 3) (v := ?_) rfl (by kernel_rfl) (by kernel_rfl) (by kernel_rfl) (by kernel_rfl) (by kernel_rfl) (fun _ _ _ h => h) hS0 (by rfl) ?_ ?_
        rotate_left
        · intro w9 hSw
          try dsimp only at hSw
          obtain ⟨s0, s1⟩ := hSw
          go_simp
          try with_reducible rfl
        try simp only [Act.put, List.setIfInBounds_toArray, List.set_cons_zero, List.set_cons_succ]
        refine wpAnyE_take (i := 4) (v := ?_) rfl (by kernel_rfl) (by kernel_rfl) (by kernel_rfl) (by kernel_rfl) (by kernel_rfl) (fun _ _ _ h => h) hS0 (by rfl) ?_ ?_
        rotate_left
        · intro w9 hSw
          try dsimp only at hSw
          obtain ⟨s0, s1⟩ := hSw
          go_simp
          try with_reducible rfl
        try simp only [Act.put, List.setIfInBounds_toArray, List.set_cons_zero, List.set_cons_succ]
        refine wpAnyE_take (i := 5) (v := ?_) rfl (by kernel_rfl) (by kernel_rfl) (by kernel_rfl) (by kernel_rfl) (by kernel_rfl) (fun _ _ _ h => h) hS0 (by rfl) ?_ ?_
        rotate_left
        · intro w9 hSw
          try dsimp only at hSw
          obtain ⟨s0, s1⟩ := hSw
          go_simp
          try with_reducible rfl
        try simp only [Act.put, List.setIfInBounds_toArray, List.set_cons_zero, List.set_cons_succ]
        refine wpAnyE_take (i := 6) (v := ?_) rfl (by kernel_rfl) (by kernel_rfl) (by kernel_rfl) (by kernel_rfl) (by kernel_rfl) (fun _ _ _ h => h) hS0 (by rfl) ?_ ?_
        rotate_left
        · intro w9 hSw
          try dsimp only at hSw
          obtain ⟨s0, s1⟩ := hSw
          go_simp
          try with_reducible rfl
        try simp only [Act.put, List.setIfInBounds_toArray, List.set_cons_zero, List.set_cons_succ]
        refine wpAnyE_take (i := 7) (v := ?_) rfl (by kernel_rfl) (by kernel_rfl) (by kernel_rfl) (by kernel_rfl) (by kernel_rfl) (fun _ _ _ h => h) hS0 (by rfl) ?_ ?_
        rotate_left
        · intro w9 hSw
          try dsimp only at hSw
          obtain ⟨s0, s1⟩ := hSw
          go_simp
          try with_reducible rfl
        try simp only [Act.put, List.setIfInBounds_toArray, List.set_cons_zero, List.set_cons_succ]
        refine wpAnyE_take (i := 8) (v := ?_) rfl (by kernel_rfl) (by kernel_rfl) (by kernel_rfl) (by kernel_rfl) (by kernel_rfl) (fun _ _ _ h => h) hS0 (by rfl) ?_ ?_
        rotate_left
        · intro w9 hSw
          try dsimp only at hSw
          obtain ⟨s0, s1⟩ := hSw
          go_simp
          try with_reducible rfl
        try simp only [Act.put, List.setIfInBounds_toArray, List.set_cons_zero, List.set_cons_succ]
        refine wpAnyE_take (i := 9) (v := ?_) rfl (by kernel_rfl) (by kernel_rfl) (by kernel_rfl) (by kernel_rfl) (by kernel_rfl) (fun _ _ _ h => h) hS0 (by rfl) ?_ ?_
        rotate_left
        · intro w9 hSw
          try dsimp only at hSw
          obtain ⟨s0, s1⟩ := hSw
          go_simp
          try with_reducible rfl
        try simp only [Act.put, List.setIfInBounds_toArray, List.set_cons_zero, List.set_cons_succ]
        refine wpAnyE_take (i := 10) (v := ?_) rfl (by kernel_rfl) (by kernel_rfl) (by kernel_rfl) (by kernel_rfl) (by kernel_rfl) (fun _ _ _ h => h) hS0 (by rfl) ?_ ?_
        rotate_left
        · intro w9 hSw
          try dsimp only at hSw
          obtain ⟨s0, s1⟩ := hSw
          go_simp
          try with_reducible rfl
        try simp only [Act.put, List.setIfInBounds_toArray, List.set_cons_zero, List.set_cons_succ]
        refine wpAnyE_take (i := 11) (v := ?_) rfl (by kernel_rfl) (by kernel_rfl) (by kernel_rfl) (by kernel_rfl) (by kernel_rfl) (fun _ _ _ h => h) hS0 (by rfl) ?_ ?_
        rotate_left
        · intro w9 hSw
          try dsimp only at hSw
          obtain ⟨s0, s1⟩ := hSw
          go_simp
          try with_reducible rfl
        try simp only [Act.put, List.setIfInBounds_toArray, List.set_cons_zero, List.set_cons_succ]
        refine wpAnyE_take (i := 12) (v := ?_) rfl (by kernel_rfl) (by kernel_rfl) (by kernel_rfl) (by kernel_rfl) (by kernel_rfl) (fun _ _ _ h => h) hS0 (by rfl) ?_ ?_
        rotate_left
        · intro w9 hSw
          try dsimp only at hSw
          obtain ⟨s0, s1⟩ := hSw
          go_simp
          try with_reducible rfl
        try simp only [Act.put, List.setIfInBounds_toArray, List.set_cons_zero, List.set_cons_succ]
        refine wpAnyE_one (i := 13) rfl (by kernel_rfl) (fun K hK => ?_)
        go_simp
        refine hK.out _ _ (fun _ => ⟨z0, z1⟩) ?_
        clear hK K
        try simp only [Act.put, List.setIfInBounds_toArray, List.set_cons_zero, List.set_cons_succ]
        refine wpAnyE_one (i := 14) rfl (by kernel_rfl) (fun K hK => ?_)
        go_simp
        refine hK.out _ _ (fun _ => ⟨z0, z1⟩) ?_
        clear hK K
        try simp only [Act.put, List.setIfInBounds_toArray, List.set_cons_zero, List.set_cons_succ]
        refine wpAnyE_one (i := 15) rfl (by kernel_rfl) (fun K hK => ?_)
        go_simp
        refine hK.out _ _ (fun h => absurd rfl h) ?_
        clear hK K
        try simp only [Act.put, List.setIfInBounds_toArray, List.set_cons_zero, List.set_cons_succ]
        refine wpAnyE_done (by kernel_rfl) ?_
        clear hS0 z0 z1
        go_wp2
        go_roundw
        case rel => exact ⟨k + 1, s2, hlt, by go_num, hS2.out, hB2.out⟩
        case measure => simp [intOf]; omega
      · go_wp2
        go_ret
        exact ⟨rfl, ⟨_, _, _, _, _, _, hS⟩, hB⟩
    · obtain rfl : k = bs.length := by omega
      go_wp2
      go_ret
      exact ⟨rfl, ⟨_, _, _, _, _, _, hS⟩, hB⟩
def intVals (l : List Int) : Array Value := (l.map fun x => Value.int .i64 x).toArray
set_option maxHeartbeats 4000000 in
set_option maxRecDepth 100000 in
theorem spec_l01Pick (g b : Nat) (l : List Int) (w : World) (h : Src w g) (hb : Blk w b 2 (intVals l)) (hl1 : 1 ≤ l.length) (hl2 : l.length ≤ 1000000) :
    Calls Try.prog 46 #[.pointer (some ⟨g, 0, none⟩), .slice (some ⟨b, 0, none⟩) l.length l.length] w fun e w' => ∃ x, x ∈ l ∧ e = .returned (.int .i64 x) ∧ Drawn w g w' := by
  have hne : some b ≠ some g := by
    intro e
    injection e with e
    subst e
    obtain ⟨A, n, c, a, s, bs, hS⟩ := h
    have h1 := hS.1
    unfold Blk at h1 hb
    rw [hb] at h1
    injection h1 with h1
    injection h1 with _ h1 _
    exact absurd h1 (by decide)
  go_enter Try.func46, Try.ntmps46
  go_wp2_with (go_at_call 30; refine (spec_l01Next g l.length _ h (by omega)).mono ?_; rintro e w1 ⟨x, rfl, hx, hD⟩; have hb2 := hb.grown hD.2 hne; obtain ⟨k, hkx⟩ := Int.eq_ofNat_of_zero_le hx.1; subst hkx; have hk : k < l.length := (by have := hx.2; by_cases h1 : l.length = 1 <;> omega); have hcell : w1.cell? ⟨b, k, none⟩ = some (.int .i64 l[k]) := (by rw [hb2.cell k]; simp [intVals, hk]); have i1 : (0 : Int) ≤ (k : Int) := (by omega); have i2 : (k : Int) < (l.length : Int) := (by omega); have hxH := Lib.hid hx; clear hx)
  go_ret
  exact ⟨l[k], List.getElem_mem hk, rfl, hD⟩
theorem blk_ne {w : World} {a b : Nat} {t s : TypeId} {cs ds : Array Value} (h1 : Blk w a t cs) (h2 : Blk w b s ds) (hne : t ≠ s) : a ≠ b := by
  intro e
  subst e
  unfold Blk at h1 h2
  rw [h1] at h2
  injection h2 with h2
  injection h2 with _ h2 _
  exact hne h2
theorem Src.blk {w : World} {g : Nat} (h : Src w g) : ∃ cs, Blk w g 66 cs := by
  obtain ⟨A, n, c, a, s, bs, h, _⟩ := h
  exact ⟨_, h⟩
theorem blk_draw {W W' : World} {g b : Nat} {t : TypeId} {cs : Array Value} (h : Blk W b t cs) (ht : t ≠ 66) (hs : Src W g) (hN : Drawn W g W') : Blk W' b t cs := by
  obtain ⟨ds, hd⟩ := hs.blk
  exact h.grown hN.2 (fun e => blk_ne h hd ht (by injection e))
theorem own_draw {α : Type} {f : α → List Value} {size base : Nat} {e : TypeId} {W W' : World} {g : Nat} {v : Value} {l : List α} (h : Own f size e W base v l) (ht : e ≠ 66) (hs : Src W g) (hN : Drawn W g W') : Own f size e W' base v l := by
  obtain ⟨ds, hd⟩ := hs.blk
  exact own_kept (u := .slice (some ⟨g, 0, none⟩) 0 0) h hN.2 (fun k a b => h.ne_blk hd ht (by rw [a]; exact b.symm))
theorem own_ne_own {α β : Type} {f : α → List Value} {f' : β → List Value} {s s' b b' : Nat} {e e' : TypeId} {W : World} {v v' : Value} {l : List α} {l' : List β} (h1 : Own f s e W b v l) (h2 : Own f' s' e' W b' v' l') (hne : e ≠ e') :
    ∀ k, v.ownBlock = some k → v'.ownBlock = some k → False := by
  intro k a b
  rcases h2.2 with ⟨rfl, _⟩ | ⟨g, cap, cur, rfl, _, hg, _⟩
  · cases b
  · injection b with b
    subst b
    exact h1.ne_blk (t := e') (cs := cur) hg hne a
theorem below_draw {B g : Nat} {w W W' : World} (h : Below B w W) (hB : B ≤ W.heap.size) (hg : B ≤ g) (hN : Drawn W g W') : Below B w W' := h.grown hN.2 hB (fun k e => by injection e with e; omega)
end Go.Proofs.Ytcoomogabicfnaa
