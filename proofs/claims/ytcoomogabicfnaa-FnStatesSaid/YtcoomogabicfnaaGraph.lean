/-
  The walks of IsEventGraph, the program's and the reference's, and of what they call.
-/
import Derived.Test.YtcoomogabicfnaaCopy
namespace Go.Proofs.Ytcoomogabicfnaa
open Go.RowKit
set_option linter.unusedVariables false
set_option linter.unusedSimpArgs false

/-- A place that could be one of a graph with e events; the last event's number is computed as the machine does. -/
def okPlace (e : Int) (p : Place) : Bool := inB p.src 0 (wrap64 (e - 1)) && inB p.dst 0 (wrap64 (e - 1)) && inB p.delay 0 1000 && inB p.tokens 0 5
def okGraph (e : Int) (ps : List Place) : Bool := inB e 1 10 && decide (ps.length ≤ 30) && ps.all (okPlace e)

theorem okGraph_len {ge : Int} {gp : List Place} (h : okGraph ge gp = true) : gp.length ≤ 30 := by
  unfold okGraph at h
  simp only [Bool.and_eq_true, decide_eq_true_eq] at h
  exact h.1.2
theorem okGraph_ev {ge : Int} {gp : List Place} (h : okGraph ge gp = true) : 1 ≤ ge ∧ ge ≤ 10 := by
  unfold okGraph at h
  simp only [Bool.and_eq_true, decide_eq_true_eq] at h
  exact (inB_iff _ _ _).1 h.1.1
theorem okGraph_place {ge : Int} {gp : List Place} (h : okGraph ge gp = true) {p : Place} (hp : p ∈ gp) : (0 ≤ p.src ∧ p.src < ge) ∧ (0 ≤ p.dst ∧ p.dst < ge) ∧ (0 ≤ p.delay ∧ p.delay ≤ 1000) ∧ (0 ≤ p.tokens ∧ p.tokens ≤ 5) := by
  have he := okGraph_ev h
  unfold okGraph at h
  simp only [Bool.and_eq_true, decide_eq_true_eq, List.all_eq_true] at h
  have h1 := h.2 p hp
  have hw : wrap64 (ge - 1) = ge - 1 := IntWalk.wrap64_in _ (by omega)
  unfold okPlace at h1
  simp only [Bool.and_eq_true, inB_iff, hw] at h1
  omega

set_option maxHeartbeats 400000 in
set_option maxRecDepth 100000 in
theorem spec_l11Place (a b c d e : Int) (w : World) :
    Calls Try.prog 56 #[.agg #[.int .i64 a, .int .i64 b, .int .i64 c, .int .i64 d], .int .i64 e] w fun r w' => r = .returned (.bool (okPlace e ⟨a, b, c, d⟩)) ∧ Below w.heap.size w w' := by
  have hE : Hid (okPlace e ⟨a, b, c, d⟩ = (inB a 0 (wrap64 (e - 1)) && inB b 0 (wrap64 (e - 1)) && inB c 0 1000 && inB d 0 5)) := rfl
  cases h1 : inB a 0 (wrap64 (e - 1))
  all_goals cases h2 : inB b 0 (wrap64 (e - 1))
  all_goals cases h3 : inB c 0 1000
  all_goals
    go_enter Try.func56, Try.ntmps56
    go_wp2_with (go_at_call 33; refine (spec_l01In _ _ _ _).mono ?_; rintro e w' ⟨rfl, rfl⟩)
    go_ret
    exact ⟨ret_bool (by rw [hE.out, h1, h2, h3]; simp), (by repeat (first | exact Below.refl _ _ | assumption | refine Below.drew ?_ | refine Below.alloc ?_ (by simp <;> omega) _ | refine Below.setCell ?_ (by simp <;> omega) _))⟩
set_option maxHeartbeats 400000 in
set_option maxRecDepth 100000 in
theorem impl_isEvent (ge n : Int) (v : Value) (w : World) :
    Calls Try.prog 72 #[.agg #[.int .i64 ge, v], .int .i64 n] w fun r w' => r = .returned (.bool (inB n 0 (wrap64 (ge - 1)))) ∧ Below w.heap.size w w' := by
  go_enter Try.func72, Try.ntmps72
  go_wp2_with (go_at_call 31; refine (impl_within _ _ _ _).mono ?_; rintro e w' ⟨rfl, rfl⟩)
  go_ret
  exact ⟨rfl, (by repeat (first | exact Below.refl _ _ | assumption | refine Below.drew ?_ | refine Below.alloc ?_ (by simp <;> omega) _ | refine Below.setCell ?_ (by simp <;> omega) _))⟩
set_option maxHeartbeats 1000000 in
set_option maxRecDepth 100000 in
theorem impl_isPlace (ge a b c d : Int) (v : Value) (w : World) :
    Calls Try.prog 49 #[.agg #[.int .i64 ge, v], .agg #[.int .i64 a, .int .i64 b, .int .i64 c, .int .i64 d]] w fun r w' => r = .returned (.bool (okPlace ge ⟨a, b, c, d⟩)) ∧ Below w.heap.size w w' := by
  have hE : Hid (okPlace ge ⟨a, b, c, d⟩ = (inB a 0 (wrap64 (ge - 1)) && inB b 0 (wrap64 (ge - 1)) && inB c 0 1000 && inB d 0 5)) := rfl
  cases h1 : inB a 0 (wrap64 (ge - 1))
  · go_enter Try.func49, Try.ntmps49
    go_wp2_with (go_at_call 72; refine (impl_isEvent _ _ _ _).mono ?_; rintro e w1 ⟨rfl, hb1⟩)
    go_ret
    exact ⟨ret_bool (by rw [hE.out, h1]; simp), (((Below.refl _ _).alloc (Nat.le_refl _) _).alloc (by simp) _).trans (hb1.mono (by simp; omega))⟩
  all_goals cases h2 : inB b 0 (wrap64 (ge - 1))
  all_goals cases h3 : inB c 0 1000
  all_goals
    go_enter Try.func49, Try.ntmps49
    go_wp2_with fail
    refine (impl_isEvent _ _ _ _).mono ?_
    rintro e w1 ⟨rfl, hb1⟩
    obtain ⟨hc1, hf1⟩ := bcell hb1
    have hs1 := hb1.size
    simp at hs1
    have hs2 : w.heap.size < w1.heap.size := by omega
    have hs3 : w.heap.size + 1 < w1.heap.size := by omega
    go_wp2_with fail
    refine (impl_isEvent _ _ _ _).mono ?_
    rintro e w2 ⟨rfl, hb2⟩
    obtain ⟨hc2, hf2⟩ := bcell hb2
    go_wp2_with (go_at_call 31; refine (impl_within _ _ _ _).mono ?_; rintro e w' ⟨rfl, rfl⟩)
    go_ret
    exact ⟨ret_bool (by rw [hE.out, h1, h2, h3]; simp), ((((Below.refl _ _).alloc (Nat.le_refl _) _).alloc (by simp) _).trans (hb1.mono (by simp; omega))).trans (hb2.mono (by omega))⟩

/-- The index of the first element with a property, or -1. -/
def idxP {α : Type} (F : α → Bool) (l : List α) : Int := match l.findIdx? F with | some i => (i : Int) | none => -1
theorem idxP_hit {α : Type} (F : α → Bool) (l : List α) (k : Nat) (hk : k < l.length) (h : ∀ j (hj : j < k), F l[j] = false) (e : F l[k] = true) : idxP F l = k := by
  unfold idxP
  rw [List.findIdx?_eq_some_iff_getElem.2 ⟨hk, e, fun j hj => by simpa using h j hj⟩]
theorem idxP_miss {α : Type} (F : α → Bool) (l : List α) (h : ∀ j (hj : j < l.length), F l[j] = false) : idxP F l = -1 := by
  unfold idxP
  rw [List.findIdx?_eq_none_iff.2 (fun x hx => by
    obtain ⟨j, hj, rfl⟩ := List.mem_iff_getElem.1 hx
    exact h j hj)]
theorem idxP_any {α : Type} (F : α → Bool) (l : List α) : decide (0 ≤ idxP F l) = l.any F := by
  unfold idxP
  cases h : l.findIdx? F with
  | none =>
    have := List.findIdx?_eq_none_iff.1 h
    have e : l.any F = false := by rw [List.any_eq_false]; intro x hx; simp [this x hx]
    rw [e]; simp
  | some i =>
    obtain ⟨hi, hF, _⟩ := List.findIdx?_eq_some_iff_getElem.1 h
    have e : l.any F = true := by rw [List.any_eq_true]; exact ⟨_, List.getElem_mem hi, hF⟩
    rw [e]; simp


set_option maxHeartbeats 400000 in
set_option maxRecDepth 100000 in
theorem g1_index (c1 : Value) (v : Value) (l : List Place) (F : Place → Bool) (w : World) (h0 : Lst Place.cells 4 w w.heap.size v l)
    (hclo : ∀ (p : Place) (W : World), Below w.heap.size w W → Calls Try.prog 48 #[.agg #[.int .i64 p.src, .int .i64 p.dst, .int .i64 p.delay, .int .i64 p.tokens], c1] W fun e W' => e = .returned (.bool (F p)) ∧ Below W.heap.size W W') :
    Calls Try.prog 71 #[v, .func (.func 48) #[] #[c1]] w fun e w' => e = .returned (.int .i64 (idxP F l)) ∧ Below w.heap.size w w' := by
  obtain ⟨A, c, rfl⟩ := h0.shape
  have hl := h0.len_le
  have hC := Lib.hid hclo
  clear hclo
  go_enter Try.func71, Try.ntmps71
  go_wp2
  go_loopw [5, 8] (fun _ i wr => ∃ k : Nat, k ≤ l.length ∧ i = .int .i64 k ∧ Hid (∀ j (hj : j < k) (hl : j < l.length), F l[j] = false) ∧ Below w.heap.size w wr) (fun _ i _ => l.length - (intOf i).toNat)
  case atStart => exact ⟨0, Nat.zero_le _, rfl, fun j hj => absurd hj (by omega), Below.refl _ _⟩
  case round =>
    obtain ⟨k, hk, rfl, hN, hB⟩ := hrel
    by_cases hlt : k < l.length
    · obtain ⟨b, off, rfl, hb, d0, d1, d2, d3⟩ := places_at h0 k hlt
      obtain ⟨hc, hf⟩ := bcell hB
      cases heq : F l[k]
      · have hN' : Hid (∀ j (hj : j < k + 1) (hl : j < l.length), F l[j] = false) := by
          intro j hj hl2
          rcases Nat.lt_or_ge j k with h | h
          · exact hN.out j h hl2
          · obtain rfl : j = k := by omega
            exact heq
        go_wp2_with (go_at_call 48; refine (hC.out l[k] _ hB).mono ?_; rintro e w1 ⟨rfl, hb1⟩)
        go_roundw
        case rel => exact ⟨k + 1, hlt, by go_num, hN', hB.trans (hb1.mono hB.size)⟩
        case measure => simp [intOf]; omega
      · have hF : Hid (idxP F l = k) := idxP_hit F l k hlt (fun j hj => hN.out j hj (by omega)) heq
        go_wp2_with (go_at_call 48; refine (hC.out l[k] _ hB).mono ?_; rintro e w1 ⟨rfl, hb1⟩)
        go_ret
        exact ⟨ret_int hF.out.symm, hB.trans (hb1.mono hB.size)⟩
    · obtain rfl : k = l.length := by omega
      have hF : Hid (idxP F l = -1) := idxP_miss F l fun j hj => hN.out j hj hj
      go_wp2
      go_ret
      exact ⟨ret_int hF.out.symm, hB⟩

set_option maxHeartbeats 400000 in
set_option maxRecDepth 100000 in
theorem g1_contains (c1 : Value) (v : Value) (l : List Place) (F : Place → Bool) (w : World) (h0 : Lst Place.cells 4 w w.heap.size v l)
    (hclo : ∀ (p : Place) (W : World), Below w.heap.size w W → Calls Try.prog 48 #[.agg #[.int .i64 p.src, .int .i64 p.dst, .int .i64 p.delay, .int .i64 p.tokens], c1] W fun e W' => e = .returned (.bool (F p)) ∧ Below W.heap.size W W') :
    Calls Try.prog 47 #[v, .func (.func 48) #[] #[c1]] w fun e w' => e = .returned (.bool (l.any F)) ∧ Below w.heap.size w w' := by
  have hC := Lib.hid hclo
  clear hclo
  go_enter Try.func47, Try.ntmps47
  go_wp2_with (go_at_call 71; refine (g1_index _ _ _ F _ h0 hC.out).mono ?_; rintro e w1 ⟨rfl, hb1⟩)
  go_ret
  exact ⟨ret_bool (idxP_any F l), hb1⟩
set_option maxHeartbeats 400000 in
set_option maxRecDepth 100000 in
theorem impl_IsEventGraph_1 (a b c d ge : Int) (v : Value) (g : Nat) (w : World) (hg : Blk w g 26 #[.int .i64 ge, v]) :
    Calls Try.prog 48 #[.agg #[.int .i64 a, .int .i64 b, .int .i64 c, .int .i64 d], .pointer (some ⟨g, 0, none⟩)] w fun r w' => r = .returned (.bool (!okPlace ge ⟨a, b, c, d⟩)) ∧ Below w.heap.size w w' := by
  have e0 := hg.cell 0
  have e1 := hg.cell 1
  have hlt := hg.lt
  go_enter Try.func48, Try.ntmps48
  go_wp2_with (go_at_call 49; refine (impl_isPlace _ _ _ _ _ _ _).mono ?_; rintro e w1 ⟨rfl, hb1⟩)
  go_ret
  exact ⟨rfl, ((Below.refl _ _).alloc (Nat.le_refl _) _).trans (hb1.mono (by simp))⟩
set_option maxHeartbeats 400000 in
set_option maxRecDepth 100000 in
theorem impl_IsEventGraph (v : Value) (ge : Int) (gp : List Place) (w : World) (h0 : Lst Place.cells 4 w w.heap.size v gp) :
    Calls Try.prog 21 #[.agg #[.int .i64 ge, v]] w fun r w' => r = .returned (.bool (okGraph ge gp)) ∧ Below w.heap.size w w' := by
  obtain ⟨A, c, rfl⟩ := h0.shape
  have hl := h0.len_le
  have hE : Hid (okGraph ge gp = (inB ge 1 10 && decide (gp.length ≤ 30) && gp.all (okPlace ge))) := rfl
  cases h1 : inB ge 1 10
  · go_enter Try.func21, Try.ntmps21
    go_wp2_with (go_at_call 31; refine (impl_within _ _ _ _).mono ?_; rintro e w' ⟨rfl, rfl⟩)
    go_ret
    exact ⟨ret_bool (by rw [hE.out, h1]; simp), (by repeat (first | exact Below.refl _ _ | assumption | refine Below.drew ?_ | refine Below.alloc ?_ (by simp <;> omega) _ | refine Below.setCell ?_ (by simp <;> omega) _))⟩
  · by_cases h2 : gp.length ≤ 30
    · have h2b : decide ((gp.length : Int) ≤ 30) = true := by simp; omega
      go_enter Try.func21, Try.ntmps21
      go_wp2_with (go_at_call 31; refine (impl_within _ _ _ _).mono ?_; rintro e w' ⟨rfl, rfl⟩)
      refine (g1_contains _ _ gp (fun p => !okPlace ge p) _ ((h0.below ((Below.refl _ _).alloc (Nat.le_refl _) _) (Nat.le_refl _)).more (by simp)) ?_).mono ?_
      · intro p W hW
        exact impl_IsEventGraph_1 _ _ _ _ _ _ _ _ ((Blk.new w _ _).below hW (by simp))
      rintro e w1 ⟨rfl, hb1⟩
      go_wp2
      go_ret
      exact ⟨ret_bool (by rw [hE.out, h1, decide_eq_true h2]; simp [List.all_eq_not_any_not]), ((Below.refl _ _).alloc (Nat.le_refl _) _).trans (hb1.mono (by simp))⟩
    · have h2b : decide ((gp.length : Int) ≤ 30) = false := by simp; omega
      go_enter Try.func21, Try.ntmps21
      go_wp2_with (go_at_call 31; refine (impl_within _ _ _ _).mono ?_; rintro e w' ⟨rfl, rfl⟩)
      go_ret
      exact ⟨ret_bool (by rw [hE.out, decide_eq_false h2]; simp), (by repeat (first | exact Below.refl _ _ | assumption | refine Below.drew ?_ | refine Below.alloc ?_ (by simp <;> omega) _ | refine Below.setCell ?_ (by simp <;> omega) _))⟩
end Go.Proofs.Ytcoomogabicfnaa
