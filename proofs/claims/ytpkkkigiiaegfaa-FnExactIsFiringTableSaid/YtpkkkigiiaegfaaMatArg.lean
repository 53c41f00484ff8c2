/-
  The laws' words for a list of lists of numbers that is an argument: sizes, copies, and how it is read.
-/
import Derived.Test.YtpkkkigiiaegfaaMatLaw
import Derived.Test.YtpkkkigiiaegfaaOpen
namespace Go.Proofs.Ytpkkkigiiaegfaa
open Go.RowKit Go.ChangeShapes Go.WideShapes Go.Deep
set_option linter.unusedVariables false
set_option linter.unusedSimpArgs false
section
variable {H : Type} {enc : TypeId × Value → H} {P : Program} {w : World} {base : Nat} {spare : Nat → Bool} {held : Bool}
theorem open_i64ss {t e e2 : TypeId} {fuel : Nat} {v : Value} {x : DataW H × List MemPlace} (ht : P.underlying t = some (.slice e)) (he : P.underlying e = some (.slice e2)) (he2 : P.underlying e2 = some (.int .i64)) (hC : P.cellsOf e = 1) (hC2 : P.cellsOf e2 = 1)
    (h : DataW.trod enc P w base spare held fuel t [v] = some x) : ∃ T : List (List Int), LstM w w.heap.size v T ∧ ∀ r ∈ T, ∀ n ∈ r, i64ok n := by
  rcases open_slice ht h with ⟨hcs, _⟩ | ⟨a, len, cap, m, n, D, Pl, hcs, hb, hl, hm, hmm, hx, hi⟩
  · simp at hcs
    subst hcs
    exact ⟨[], ⟨[], rfl, Lst.nil, fun i h1 => absurd h1 (by simp)⟩, by simp⟩
  · simp at hcs
    subst hcs
    have hmlen : len ≤ m := by rw [hmm]; split <;> omega
    have key : ∀ i, i < len → ∃ (r : Ref) (l : List Int), w.cell? (a.add i) = some r.val ∧ Lst intCell 1 w w.heap.size r.val l ∧ ∀ n ∈ l, i64ok n := by
      intro i hil
      obtain ⟨cs', hc, ht'⟩ := hi i (by omega)
      rw [hC] at hc
      obtain ⟨_, hcl, hat⟩ := World.cells?_some hc
      have hcell := hat 0 (by omega)
      have hlen1 : cs'.length = 1 := hcl
      obtain ⟨u, rfl⟩ : ∃ u, cs' = [u] := by
        match cs', hlen1 with
        | [u], _ => exact ⟨u, rfl⟩
      obtain ⟨l, hL, hok⟩ := open_i64s he he2 hC2 ht'
      obtain ⟨A, c, rfl⟩ := hL.shape
      refine ⟨⟨A, l.length, c⟩, l, ?_, hL, hok⟩
      simpa [Addr.add, Ref.val] using hcell
    obtain ⟨z, hz⟩ : ∃ z : Nat → Ref × List Int, ∀ i, i < len → w.cell? (a.add i) = some (z i).1.val ∧ Lst intCell 1 w w.heap.size (z i).1.val (z i).2 ∧ ∀ n ∈ (z i).2, i64ok n := by
      refine ⟨fun i => if hij : i < len then ((key i hij).choose, (key i hij).choose_spec.choose) else (⟨none, 0, 0⟩, []), fun i hi => ?_⟩
      simp only [hi, dite_true]
      exact (key i hi).choose_spec.choose_spec
    clear key
    refine ⟨(List.range len).map fun i => (z i).2, ⟨(List.range len).map fun i => (z i).1, by simp, ?_, fun i h1 h2 => ?_⟩, fun r hr => ?_⟩
    · have hlt : ((List.range len).map fun i => (z i).1).length = len := by simp
      refine ⟨flat_len Ref.cells 1 Ref.cells_len _, by omega, some a, cap, by rw [hlt], by omega, fun hp => ?_⟩
      have hq := (hz 0 (by omega)).1
      obtain ⟨b, off, spot⟩ := a
      have hspot : spot = none := by simpa [Addr.add] using World.cell?_spot hq
      subst hspot
      refine ⟨b, off, rfl, ?_, fun j u hu => ?_⟩
      · have := World.block_lt_of_cell? w _ hq
        rw [add_plain] at this
        exact this
      · have hj : j < len := by
          have := (List.getElem?_eq_some_iff.1 hu).1
          rw [flat_len Ref.cells 1 Ref.cells_len, hlt] at this
          omega
        have g := flat_get Ref.cells 1 Ref.cells_len ((List.range len).map fun i => (z i).1) j 0 (by omega) (by omega)
        simp only [Nat.mul_one, Nat.add_zero] at g
        rw [g] at hu
        have hc := (hz j hj).1
        rw [add_plain] at hc
        rw [hc]
        simp [Ref.cells] at hu
        rw [← hu]
    · simp only [List.getElem_map, List.getElem_range]
      exact (hz i (by simpa using h1)).2.1
    · obtain ⟨i, hi, rfl⟩ := List.mem_map.1 hr
      exact (hz i (List.mem_range.1 hi)).2.2
end
set_option maxHeartbeats 400000 in
set_option maxRecDepth 100000 in
theorem laws_szInt64S (v : Value) (B : Nat) (l : List Int) (left : Int) (w : World) (h0 : Lst intCell 1 w B v l) (h1 : 0 ≤ left) (h2 : left ≤ 1048576) :
    Calls Try.prog 128 #[v, .int .i64 left] w fun e w' => e = .returned (.int .i64 (if left < l.length then -1 else left - l.length)) ∧ w = w' := by
  obtain ⟨A, c, rfl⟩ := h0.shape
  have hl := h0.len_le
  by_cases h : left < l.length
  · rw [if_pos h]
    go_enter Try.func128, Try.ntmps128
    go_wp2
    go_ret
    exact ⟨rfl, rfl⟩
  · rw [if_neg h]
    go_enter Try.func128, Try.ntmps128
    go_wp2
    go_ret
    exact ⟨rfl, rfl⟩
set_option maxHeartbeats 2000000 in
set_option maxRecDepth 100000 in
theorem laws_szInt64SS (v : Value) (B : Nat) (T : List (List Int)) (left : Int) (w : World) (h0 : LstM w B v T) (h1 : 0 ≤ left) (h2 : left ≤ 1048576) :
    Calls Try.prog 34 #[v, .int .i64 left] w fun e w' => e = .returned (.int .i64 (if left < (T.length : Int) + offs T T.length then -1 else left - T.length - offs T T.length)) ∧ w = w' := by
  obtain ⟨A, c, rfl⟩ := h0.shape
  have hl := h0.len_le
  obtain ⟨res, hres⟩ : ∃ res : Int, (if left < (T.length : Int) + offs T T.length then (-1 : Int) else left - T.length - offs T T.length) = res := ⟨_, rfl⟩
  rw [hres]
  have hresH := Lib.hid hres
  clear hres
  by_cases h : left < T.length
  · have hF : Hid (res = -1) := hresH.out.symm.trans (if_pos (by omega))
    go_enter Try.func34, Try.ntmps34
    go_wp2
    go_ret
    exact ⟨ret_int hF.out.symm, rfl⟩
  · go_enter Try.func34, Try.ntmps34
    go_wp2
    go_loop [1, 5] (fun lv i => ∃ k : Nat, k ≤ T.length ∧ i = .int .i64 k ∧ lv = .int .i64 (left - T.length - offs T k) ∧ (offs T k : Int) ≤ left - T.length) (fun _ i => T.length - (intOf i).toNat)
    case atStart => exact ⟨0, Nat.zero_le _, rfl, by simp [offs], by simp [offs]; omega⟩
    case round =>
      obtain ⟨k, hk, rfl, rfl, hle⟩ := hrel
      by_cases hlt : k < T.length
      · obtain ⟨b1, o1, _, r1, hA, -, d0, hr1⟩ := h0.row k hlt
        cases hA
        obtain ⟨R1, rn1, rc1⟩ := r1
        simp only [Ref.val] at d0 hr1
        have hos := offs_succ T k hlt
        have hmx := offs_le T (k + 1) T.length hlt (Nat.le_refl _)
        obtain ⟨lk, hlk⟩ : ∃ lk : Int, left - T.length - offs T k = lk := ⟨_, rfl⟩
        have hlkH := Lib.hid hlk
        rw [hlk]
        have hl0 : 0 ≤ lk := by omega
        have hl1 : lk ≤ 1048576 := by omega
        have hosH := Lib.hid hos
        clear hlk hos
        by_cases hfit : lk < T[k].length
        · have hF : Hid (res = -1) := hresH.out.symm.trans (if_pos (by have e1 := hosH.out; have e2 := hlkH.out; omega))
          have hq : Hid ((if lk < T[k].length then (-1 : Int) else lk - T[k].length) = -1) := if_pos hfit
          go_wp2_with (go_at_call 128; refine (laws_szInt64S _ _ T[k] lk _ hr1 hl0 hl1).mono ?_; rintro e9 w9 ⟨rfl, rfl⟩; rw [hq.out])
          go_ret
          exact ⟨ret_int hF.out.symm, rfl⟩
        · obtain ⟨l2, hl2⟩ : ∃ l2 : Int, lk - T[k].length = l2 := ⟨_, rfl⟩
          have hq : Hid ((if lk < T[k].length then (-1 : Int) else lk - T[k].length) = l2) := (if_neg hfit).trans hl2
          have hl2H := Lib.hid hl2
          have hl20 : ¬ l2 < 0 := by omega
          clear hfit hl2
          go_wp2_with (go_at_call 128; refine (laws_szInt64S _ _ T[k] lk _ hr1 hl0 hl1).mono ?_; rintro e9 w9 ⟨rfl, rfl⟩; rw [hq.out])
          go_round
          case rel => exact ⟨k + 1, hlt, by go_num, by have e1 := hosH.out; have e2 := hlkH.out; have e3 := hl2H.out; congr 1; omega, by have e1 := hosH.out; have e2 := hlkH.out; have e3 := hl2H.out; omega⟩
          case measure => simp [intOf]; omega
      · obtain rfl : k = T.length := by omega
        have hF : Hid (res = left - T.length - offs T T.length) := hresH.out.symm.trans (if_neg (by omega))
        go_wp2
        go_ret
        exact ⟨ret_int hF.out.symm, rfl⟩
theorem fillM_set (T : List (List Int)) (k : Nat) (h : k < T.length) : (T.take k ++ List.replicate (T.length - k) ([] : List Int)).set k T[k] = T.take (k + 1) ++ List.replicate (T.length - (k + 1)) [] := by
  have e : T.length - k = (T.length - (k + 1)) + 1 := by omega
  rw [List.set_append_right _ _ (by simp; omega), e, List.replicate_succ]
  have e2 : k - (T.take k).length = 0 := by simp; omega
  rw [e2, List.set_cons_zero, take_succ_get _ _ h, List.append_assoc]
  rfl
set_option maxHeartbeats 2000000 in
set_option maxRecDepth 100000 in
theorem laws_toInt64SS (v : Value) (T : List (List Int)) (w : World) (h0 : LstM w w.heap.size v T) (h1 : T.length + offs T T.length ≤ 1048576) :
    Calls Try.prog 36 #[v] w (RetM w T) := by
  obtain ⟨A, c, rfl⟩ := h0.shape
  have hmk := run_make_lst (P := Try.prog) Ref.cells 1 Ref.cells_len (by omega) ⟨none, 0, 0⟩ 47 37 _ 24 Try.underlying47 info_ref rfl .i64 .i64 T.length (by omega) (by omega)
  have hm1 := fun w => (hmk w).1
  have hm2 := Lib.hid ((hmk w).2 w.heap.size (Nat.le_refl _))
  clear hmk
  go_enter Try.func36, Try.ntmps36
  go_wp2
  clear hm1
  go_loopw [4] (fun i wr => ∃ k : Nat, k ≤ T.length ∧ i = .int .i64 k ∧ OwnM wr w.heap.size (.slice (some ⟨w.heap.size, 0, none⟩) T.length T.length) (T.take k ++ List.replicate (T.length - k) []) ∧ Below w.heap.size w wr) (fun i _ => T.length - (intOf i).toNat)
  case atStart => exact ⟨0, Nat.zero_le _, rfl, by simpa using OwnM.made hm2.out, (Below.refl _ _).alloc (Nat.le_refl _) _⟩
  case round =>
    clear hm2
    obtain ⟨k, hk, rfl, hM, hB⟩ := hrel
    by_cases hlt : k < T.length
    · obtain ⟨b1, o1, _, r1, hA, -, d0, hr1⟩ := (h0.now hB).row k hlt
      cases hA
      obtain ⟨R1, rn1, rc1⟩ := r1
      simp only [Ref.val] at d0 hr1
      have hos := offs_succ T k hlt
      have hmx := offs_le T (k + 1) T.length hlt (Nat.le_refl _)
      have hkl : k < (T.take k ++ List.replicate (T.length - k) ([] : List Int)).length := by simp; omega
      have hs := hB.size
      have hrowl : T[k].length ≤ 1048576 := by omega
      have hlenM : Hid ((T.take k ++ List.replicate (T.length - k) ([] : List Int)).length = T.length) := by show _ = _; simp; omega
      clear hos hmx
      go_wp2_with fail
      refine (laws_toInt64S _ T[k] wr hr1 hrowl).mono ?_
      rintro e9 w9 ⟨u9, rfl, hO9, hB9⟩
      obtain ⟨A9, c9, rfl⟩ := hO9.shape
      have hM9 := hM.setNew hB9 k hkl ⟨A9, T[k].length, c9⟩ T[k] hO9 hs rfl
      rw [fillM_set T k hlt] at hM9
      obtain ⟨g, cu, r0, hu, hgb, hgl, hfz, hcell, _⟩ := (hM.now hB9).row k hkl
      rw [hlenM.out] at hu
      obtain rfl : g = w.heap.size := by injection hu with hu _ _; injection hu with hu; injection hu with hu _ _; exact hu.symm
      have hBn := (hB.trans (hB9.mono hs)).setCell (p := ⟨w.heap.size, k, none⟩) (Nat.le_refl _) (Ref.val ⟨A9, T[k].length, c9⟩)
      have hMH := Lib.hid hM9
      have hBH := Lib.hid hBn
      have i1 : (0 : Int) ≤ (k : Int) := by omega
      have i2 : (k : Int) < (T.length : Int) := by omega
      simp only [Ref.val] at hcell
      clear hM9 hBn hu hM hB hr1 d0
      go_wp2
      go_roundw
      case rel => exact ⟨k + 1, hlt, by go_num, hMH.out, hBH.out⟩
      case measure => simp [intOf]; omega
    · obtain rfl : k = T.length := by omega
      simp only [Nat.sub_self, List.replicate_zero, List.append_nil, List.take_length] at hM
      go_wp2
      go_ret
      exact ⟨_, rfl, hM, hB⟩
end Go.Proofs.Ytpkkkigiiaegfaa
