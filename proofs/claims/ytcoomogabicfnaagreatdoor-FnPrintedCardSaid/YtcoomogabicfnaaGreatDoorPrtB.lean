/-
  A strings.Builder of one's own: what it holds, what a write leaves; small searches.
-/
import Derived.Test.YtcoomogabicfnaaGreatDoorPrtP
import Derived.Test.YtcoomogabicfnaaGreatDoorInts
import Derived.Test.YtcoomogabicfnaaGreatDoorMore
import Derived.Shelf.Strings.BuilderK
namespace Go.Proofs.YtcoomogabicfnaaGreatDoor
open Go.RowKit
set_option linter.unusedVariables false
set_option linter.unusedSimpArgs false
/-- The shelf's numbers of the builder's functions and types. -/
def Tryz.lays156_ren : Shelf.Ren where
  f := fun x => match x with | 166 => 49 | 240 => 71 | 276 => 85 | 169 => 52 | n => n
  t := fun x => match x with | 70 => 79 | 72 => 81 | 37 => 22 | 5 => 5 | 3 => 3 | 9 => 9 | 127 => 108 | 20 => 20 | 75 => 85 | 80 => 89 | 164 => 120 | n => n
  g := fun n => n
theorem Tryz.lays166 : Lays.n166 Tryz.prog Tryz.lays156_ren := by
  constructor <;> first | kernel_rfl | (intro w; kernel_rfl)
theorem Tryz.lays169 : Lays.n169 Tryz.prog Tryz.lays156_ren := by
  constructor <;> first | kernel_rfl | (intro w; kernel_rfl)
theorem builder_extra : Builder.Extra Tryz.prog Tryz.lays156_ren where
  sizeBuilder := by kernel_rfl
  liesBuilder := by kernel_rfl
  t5 := Tryz.underlying5
  a5 := Tryz.isAgg5
  z5 := Tryz.sizeOf5
  v5 := Tryz.zeroValue5
  infoByte := by kernel_rfl
  cellsByte := by kernel_rfl
  sizeByte := by kernel_rfl
  neB5 := by decide
/-- A builder in block b that holds the text s; its memory lies from B on. -/
def Bld (B b : Nat) (s : ByteArray) (w : World) : Prop := Lib.IsBuilderF 81 5 B b (Lib.strCells s) w
/-- Blocks that are no text's row and not b stand as they stood. -/
def Kept (b : Nat) (w w' : World) : Prop := Lib.OthersKept 5 (some b) w w'
theorem Bld.new (w : World) (B : Nat) (hB : B ≤ w.heap.size) : Bld B w.heap.size ⟨#[]⟩ (w.alloc (.cells #[.pointer none, .slice none 0 0] 81)) :=
  .inl ⟨hB, .slice none 0 0, heap_alloc_new w _, World.ownsRowF_nil _ _ _ _, by simp [Value.ownBlock]⟩
theorem Bld.keep {B b : Nat} {s : ByteArray} {w w' : World} (h : Bld B b s w) (hk : ∀ (g : Nat) cs t fz, w.heap[g]? = some (.cells cs t fz) → (t = 81 ∨ t = 5) → w'.heap[g]? = some (.cells cs t fz)) : Bld B b s w' := by
  have key : ∀ p, Lib.BuilderAtF 81 5 B b p (Lib.strCells s) w → Lib.BuilderAtF 81 5 B b p (Lib.strCells s) w' := by
    rintro p ⟨hB, v, hb, hown, hne⟩
    refine ⟨hB, v, hk _ _ _ _ hb (.inl rfl), ?_, hne⟩
    refine ⟨hown.1, ?_⟩
    rcases hown.2 with ⟨rfl, h0⟩ | ⟨g, cap, cur, fz, rfl, hbg, hg, rest⟩
    · exact .inl ⟨rfl, h0⟩
    · exact .inr ⟨g, cap, cur, fz, rfl, hbg, hk _ _ _ _ hg (.inr rfl), rest⟩
  rcases h with h | h
  · exact .inl (key _ h)
  · exact .inr (key _ h)
theorem Bld.now {B b : Nat} {s : ByteArray} {w w' : World} (h : Bld B b s w) (hb : Below w.heap.size w w') : Bld B b s w' :=
  h.keep fun g cs t fz hg _ => (hb.block g (Array.getElem?_eq_some_iff.1 hg).1).trans hg
theorem Bld.set {B b : Nat} {s : ByteArray} {w : World} (h : Bld B b s w) {g : Nat} {t : TypeId} {cs : Array Value} {fz : Nat × Nat} (hg : w.heap[g]? = some (.cells cs t fz)) (ht : t ≠ 81 ∧ t ≠ 5) (o : Nat) (u : Value) : Bld B b s (w.setCell ⟨g, o, none⟩ u) :=
  h.keep fun k cs' t' fz' hk ht' => by
    rw [Below.heap_setCell _ _ _ _ (by
      rintro rfl
      rw [hk] at hg
      injection hg with hg
      injection hg with _ hg _
      rcases ht' with e | e
      · exact ht.1 (hg ▸ e)
      · exact ht.2 (hg ▸ e))]
    exact hk
theorem Bld.lt {B b : Nat} {s : ByteArray} {w : World} (h : Bld B b s w) : b < w.heap.size := by
  rcases h with h | h
  · exact h.lt
  · exact h.lt
theorem Bld.blk {B b : Nat} {s : ByteArray} {w : World} (h : Bld B b s w) : ∃ cs fz, w.heap[b]? = some (.cells cs 81 fz) := by
  rcases h with ⟨_, v, hb, _⟩ | ⟨_, v, hb, _⟩
  · exact ⟨_, _, hb⟩
  · exact ⟨_, _, hb⟩
theorem Kept.own {α : Type} {f : α → List Value} {s : Nat} {e : TypeId} {w w' : World} {base b : Nat} {v : Value} {l : List α} (h : Own f s e w base v l) (hk : Kept b w w') (he : e ≠ 5) (hb : v.ownBlock ≠ some b) : Own f s e w' base v l := by
  refine ⟨h.1, ?_⟩
  rcases h.2 with ⟨rfl, h0⟩ | ⟨g, cap, cur, rfl, hbg, hg, rest⟩
  · exact .inl ⟨rfl, h0⟩
  · exact .inr ⟨g, cap, cur, rfl, hbg, hk g _ hg (fun e2 => hb e2) (fun c fz e2 => he (by injection e2)), rest⟩
theorem Kept.blk {w w' : World} {g b : Nat} {t : TypeId} {cs : Array Value} (h : Blk w g t cs) (hk : Kept b w w') (he : t ≠ 5) (hb : g ≠ b) : Blk w' g t cs :=
  hk g _ h (fun e2 => hb (by injection e2)) (fun c fz e2 => he (by injection e2))
theorem own_builder {α : Type} {f : α → List Value} {s : Nat} {e : TypeId} {w : World} {base B b : Nat} {v : Value} {l : List α} {t : ByteArray} (h : Own f s e w base v l) (hb : Bld B b t w) (he : e ≠ 81) : v.ownBlock ≠ some b := by
  intro hv
  obtain ⟨cs, fz, hh⟩ := hb.blk
  rcases h.2 with ⟨rfl, _⟩ | ⟨g, cap, cur, rfl, _, hg, _⟩
  · cases hv
  · injection hv with hv
    subst hv
    rw [hg] at hh
    injection hh with hh
    injection hh with _ hh _
    exact he hh
theorem strCells_app (s t : ByteArray) : Lib.strCells s ++ Lib.strCells t = Lib.strCells (s ++ t) := by simp [Lib.strCells, ByteArray.data_append]
theorem builder_write (B b : Nat) (s t : ByteArray) (w : World) (h : Bld B b s w) (hlen : s.size + t.size ≤ 1000000000) (hBw : B ≤ w.heap.size) :
    Calls Tryz.prog 49 #[.pointer (some ⟨b, 0, none⟩), .string t] w fun e w' => ∃ n, e = .returned (.tuple #[n, .nilIface]) ∧ Bld B b (s ++ t) w' ∧ Below B w w' ∧ Kept b w w' := by
  refine (Any.Builder_WriteString_k Tryz.lays166 builder_extra B b (Lib.strCells s) t w h (by rw [Lib.strCells_length]; omega) hBw).mono ?_
  rintro e w' ⟨rfl, hA, hB, hK⟩
  rw [strCells_app] at hA
  exact ⟨_, rfl, .inr hA, hB, hK⟩
theorem builder_string (B b : Nat) (s : ByteArray) (w : World) (h : Bld B b s w) (hBw : B ≤ w.heap.size) :
    Calls Tryz.prog 52 #[.pointer (some ⟨b, 0, none⟩)] w fun e w' => e = .returned (.string s) ∧ Below B w w' := by
  refine (Any.Builder_String_any_k Tryz.lays169 builder_extra B b s.data.toList w h hBw).mono ?_
  rintro e w' ⟨rfl, _, hB, _⟩
  exact ⟨rfl, hB⟩
set_option maxHeartbeats 400000 in
set_option maxRecDepth 100000 in
theorem slices_Contains_str (v : Value) (l : List ByteArray) (x : ByteArray) (w : World) (h0 : Lst strCell 1 w w.heap.size v l) :
    Calls Tryz.prog 22 #[v, .string x] w fun e w' => e = .returned (.bool (decide (0 ≤ findStr l x))) ∧ w = w' := by
  go_enter Tryz.func22, Tryz.ntmps22
  go_wp2_with (go_at_call 46; refine (slices_IndexStr _ _ _ _ h0).mono ?_; rintro e w' ⟨rfl, rfl⟩)
  go_ret
  exact ⟨rfl, rfl⟩
set_option maxHeartbeats 400000 in
set_option maxRecDepth 100000 in
theorem slices_Index_int (v : Value) (l : List Int) (x : Int) (w : World) (h0 : Lst intCell 1 w w.heap.size v l) :
    Calls Tryz.prog 73 #[v, .int .i64 x] w fun e w' => e = .returned (.int .i64 (findI l x)) ∧ w = w' := by
  obtain ⟨A, c, rfl⟩ := h0.shape
  have hl := h0.len_le
  go_enter Tryz.func73, Tryz.ntmps73
  go_wp2
  go_loop [5, 8] (fun _ i => ∃ k : Nat, k ≤ l.length ∧ i = .int .i64 k ∧ Hid (∀ j (hj : j < k) (hl : j < l.length), l[j] ≠ x)) (fun _ i => l.length - (intOf i).toNat)
  case atStart => exact ⟨0, Nat.zero_le _, rfl, fun j hj => absurd hj (by omega)⟩
  case round =>
    obtain ⟨k, hk, rfl, hN⟩ := hrel
    by_cases hlt : k < l.length
    · obtain ⟨b, off, rfl, hb, c0⟩ := ints_at h0 k hlt
      by_cases heq : l[k] = x
      · have hq : (x == l[k]) = true := by simp [heq]
        have hF : Hid (findI l x = k) := idxP_hit _ l k hlt (fun j hj => decide_eq_false (hN.out j hj (by omega))) (decide_eq_true heq)
        clear heq
        go_wp2
        go_ret
        exact ⟨ret_int hF.out.symm, rfl⟩
      · have hq : (x == l[k]) = false := by simpa using fun h => heq h.symm
        have hN' : Hid (∀ j (hj : j < k + 1) (hl : j < l.length), l[j] ≠ x) := by
          intro j hj hl2
          rcases Nat.lt_or_ge j k with h | h
          · exact hN.out j h hl2
          · obtain rfl : j = k := by omega
            exact heq
        clear heq
        go_wp2
        go_round
        case rel => exact ⟨k + 1, hlt, by go_num, hN'⟩
        case measure => simp [intOf]; omega
    · obtain rfl : k = l.length := by omega
      have hF : Hid (findI l x = -1) := idxP_miss _ l fun j hj => decide_eq_false (hN.out j hj hj)
      go_wp2
      go_ret
      exact ⟨ret_int hF.out.symm, rfl⟩
set_option maxHeartbeats 400000 in
set_option maxRecDepth 100000 in
theorem slices_Contains_int (v : Value) (l : List Int) (x : Int) (w : World) (h0 : Lst intCell 1 w w.heap.size v l) :
    Calls Tryz.prog 51 #[v, .int .i64 x] w fun e w' => e = .returned (.bool (hasI l x)) ∧ w = w' := by
  go_enter Tryz.func51, Tryz.ntmps51
  go_wp2_with (go_at_call 73; refine (slices_Index_int _ _ _ _ h0).mono ?_; rintro e w' ⟨rfl, rfl⟩)
  go_ret
  exact ⟨ret_bool (idxP_any _ _), rfl⟩

set_option maxHeartbeats 400000 in
set_option maxRecDepth 100000 in
theorem pt1_index (c1 : Value) (v : Value) (l : List Place) (F : Place → Bool) (w : World) (h0 : Lst Place.cells 4 w w.heap.size v l)
    (hclo : ∀ (p : Place) (W : World), Below w.heap.size w W → Calls Tryz.prog 48 #[.agg #[.int .i64 p.src, .int .i64 p.dst, .int .i64 p.delay, .int .i64 p.tokens], c1] W fun e W' => e = .returned (.bool (F p)) ∧ Below W.heap.size W W') :
    Calls Tryz.prog 47 #[v, .func (.func 48) #[] #[c1]] w fun e w' => e = .returned (.int .i64 (idxP F l)) ∧ Below w.heap.size w w' := by
  obtain ⟨A, c, rfl⟩ := h0.shape
  have hl := h0.len_le
  have hC := Lib.hid hclo
  clear hclo
  go_enter Tryz.func47, Tryz.ntmps47
  go_wp2
  go_loopw [5, 8] (fun _ i wr => ∃ k : Nat, k ≤ l.length ∧ i = .int .i64 k ∧ Hid (∀ j (hj : j < k) (hl : j < l.length), F l[j] = false) ∧ Below w.heap.size w wr) (fun _ i _ => l.length - (intOf i).toNat)
  case atStart => exact ⟨0, Nat.zero_le _, rfl, fun j hj => absurd hj (by omega), Below.refl _ _⟩
  case round =>
    obtain ⟨k, hk, rfl, hN, hB⟩ := hrel
    by_cases hlt : k < l.length
    · obtain ⟨b, off, rfl, hb, d0, d1, d2, d3⟩ := places_at h0 k hlt
      obtain ⟨hc, hf⟩ := bcell hB
      cases heq : F l[k]
      · have hN' : Hid (∀ j (hj : j < k + 1) (hl : j < l.length), F l[j] = false) := by
          intro j hj hl2
          rcases Nat.lt_or_ge j k with h | h
          · exact hN.out j h hl2
          · obtain rfl : j = k := by omega
            exact heq
        go_wp2_with (go_at_call 48; refine (hC.out l[k] _ hB).mono ?_; rintro e w1 ⟨rfl, hb1⟩)
        go_roundw
        case rel => exact ⟨k + 1, hlt, by go_num, hN', hB.trans (hb1.mono hB.size)⟩
        case measure => simp [intOf]; omega
      · have hF : Hid (idxP F l = k) := idxP_hit F l k hlt (fun j hj => hN.out j hj (by omega)) heq
        go_wp2_with (go_at_call 48; refine (hC.out l[k] _ hB).mono ?_; rintro e w1 ⟨rfl, hb1⟩)
        go_ret
        exact ⟨ret_int hF.out.symm, hB.trans (hb1.mono hB.size)⟩
    · obtain rfl : k = l.length := by omega
      have hF : Hid (idxP F l = -1) := idxP_miss F l fun j hj => hN.out j hj hj
      go_wp2
      go_ret
      exact ⟨ret_int hF.out.symm, hB⟩
set_option maxHeartbeats 4000000 in
set_option maxRecDepth 100000 in
theorem impl_printText1 (p : Place) (e : Nat) (eb : Nat) (W : World) (he : W.cell? ⟨eb, 0, none⟩ = some (.int .i64 (e : Nat))) :
    Calls Tryz.prog 48 #[.agg #[.int .i64 p.src, .int .i64 p.dst, .int .i64 p.delay, .int .i64 p.tokens], .pointer (some ⟨eb, 0, none⟩)] W fun r W' => r = .returned (.bool (selfP e p)) ∧ Below W.heap.size W W' := by
  obtain ⟨ps, pd, pl, pt⟩ := p
  have l1 := World.block_lt_of_cell? W _ he
  simp only at l1
  have hne : eb ≠ W.heap.size := by omega
  by_cases h1 : ps = (e : Int)
  · have q1 : (ps == (e : Int)) = true := by simpa using h1
    have hr : Hid (selfP e ⟨ps, pd, pl, pt⟩ = (pd == (e : Int))) := by
      show _ = _
      simp only [selfP, h1, decide_true, Bool.true_and]
      rw [Bool.eq_iff_iff]
      simp
    rw [hr.out]
    clear h1 hr
    go_enter Tryz.func48, Tryz.ntmps48
    go_wp2
    go_ret
    exact ⟨rfl, (by repeat (first | exact Below.refl _ _ | assumption | refine Below.drew ?_ | refine Below.alloc ?_ (by simp <;> omega) _ | refine Below.setCell ?_ (by simp <;> omega) _))⟩
  · have q1 : (ps == (e : Int)) = false := by simpa using h1
    have hr : Hid (selfP e ⟨ps, pd, pl, pt⟩ = false) := by
      show _ = _
      simp [selfP, h1]
    rw [hr.out]
    clear h1 hr
    go_enter Tryz.func48, Tryz.ntmps48
    go_wp2
    go_ret
    exact ⟨rfl, (by repeat (first | exact Below.refl _ _ | assumption | refine Below.drew ?_ | refine Below.alloc ?_ (by simp <;> omega) _ | refine Below.setCell ?_ (by simp <;> omega) _))⟩
end Go.Proofs.YtcoomogabicfnaaGreatDoor
