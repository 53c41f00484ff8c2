/-
  The laws' words for lists of lists of numbers.
-/
import Derived.Test.YtpkkkigiiaegfaaMat
import Derived.Test.YtpkkkigiiaegfaaEqs
namespace Go.Proofs.Ytpkkkigiiaegfaa
open Go.RowKit
set_option linter.unusedVariables false
set_option linter.unusedSimpArgs false

/-- The numbers in the first j lists. -/
def offs (M : List (List Int)) (j : Nat) : Nat := ((M.take j).map List.length).sum
theorem offs_succ (M : List (List Int)) (j : Nat) (h : j < M.length) : offs M (j + 1) = offs M j + M[j].length := by
  unfold offs
  rw [take_succ_get _ _ h, List.map_append, List.sum_append]
  simp only [List.map_cons, List.map_nil, List.sum_cons, List.sum_nil, Nat.add_zero]
theorem offs_le (M : List (List Int)) (j : Nat) : ∀ n, j ≤ n → n ≤ M.length → offs M j ≤ offs M n := by
  intro n
  induction n with
  | zero => intro h _; rw [Nat.le_zero.1 h]; exact Nat.le_refl _
  | succ n ih =>
    intro h hn
    by_cases e : j = n + 1
    · rw [e]; exact Nat.le_refl _
    · have := ih (by omega) (by omega)
      have := offs_succ M n (by omega)
      omega
theorem offs_rows (M : List (List Int)) (c : Nat) (h : ∀ r ∈ M, r.length ≤ c) : ∀ j, j ≤ M.length → offs M j ≤ j * c := by
  intro j
  induction j with
  | zero => intro _; simp [offs]
  | succ j ih =>
    intro hj
    have h1 := ih (by omega)
    have h2 := h M[j] (List.getElem_mem (by omega))
    rw [offs_succ M j (by omega), Nat.add_mul]
    omega
def rowMark (k : Int) (M : List (List Int)) (i : Nat) : List Int := marksInt64 (k + offs M i) (M.getD i []).length
def mksM (k : Int) (M : List (List Int)) (j : Nat) : List (List Int) := (List.range j).map (rowMark k M)
theorem mksM_len (k : Int) (M : List (List Int)) (j : Nat) : (mksM k M j).length = j := by simp [mksM]
theorem mksM_get (k : Int) (M : List (List Int)) (j i : Nat) (h : i < (mksM k M j).length) (hi : i < M.length) : (mksM k M j)[i] = marksInt64 (k + offs M i) M[i].length := by
  simp [mksM, rowMark, List.getD, List.getElem?_eq_getElem hi]
theorem mksM_step (k : Int) (j : Nat) (M : List (List Int)) (h : j < M.length) : (mksM k M j ++ M.drop j).set j (marksInt64 (k + offs M j) M[j].length) = mksM k M (j + 1) ++ M.drop (j + 1) := by
  rw [List.set_append_right _ _ (by simp [mksM_len])]
  have e : j - (mksM k M j).length = 0 := by simp [mksM_len]
  rw [e, List.drop_eq_getElem_cons h, List.set_cons_zero]
  simp [mksM, rowMark, List.range_succ, List.getD, List.getElem?_eq_getElem h]
theorem mksM_at (k : Int) (j : Nat) (M : List (List Int)) (h : j < M.length) (h2 : j < (mksM k M j ++ M.drop j).length) : (mksM k M j ++ M.drop j)[j] = M[j] := by
  rw [List.getElem_append_right (by simp [mksM_len])]
  simp [mksM_len]
/-- What reads as M below B, at any later time. -/
def KeptM (w : World) (B : Nat) (u : Value) (M : List (List Int)) : Prop := LstM w B u M ∧ B ≤ w.heap.size
section
variable {w w' : World} {B base : Nat} {u : Value} {M : List (List Int)}
theorem LstM.more {B' : Nat} (h : LstM w B u M) (hb : B ≤ B') : LstM w B' u M := by
  obtain ⟨rs, hl, hO, hR⟩ := h
  exact ⟨rs, hl, hO.more hb, fun i h1 h2 => (hR i h1 h2).more hb⟩
theorem LstM.below {B' : Nat} (h : LstM w B u M) (hb : Below B' w w') (hB : B ≤ B') : LstM w' B u M := by
  obtain ⟨rs, hl, hO, hR⟩ := h
  exact ⟨rs, hl, hO.below hb hB, fun i h1 h2 => (hR i h1 h2).below hb hB⟩
theorem OwnM.kept (h : OwnM w base u M) : KeptM w w.heap.size u M := ⟨h.lst, Nat.le_refl _⟩
theorem KeptM.lst (h : KeptM w B u M) : LstM w w.heap.size u M := h.1.more h.2
theorem KeptM.now (h : KeptM w B u M) (hb : Below w.heap.size w w') : KeptM w' B u M := ⟨h.1.below hb h.2, Nat.le_trans h.2 hb.size⟩
theorem KeptM.below {B' : Nat} (h : KeptM w B u M) (hb : Below B' w w') (hB : B ≤ B') : KeptM w' B u M := ⟨h.1.below hb hB, Nat.le_trans h.2 hb.size⟩
theorem KeptM.far (h : KeptM w B u M) {r : Option Nat} (hG : w.grownBy w' r) (hr : ∀ k, r = some k → B ≤ k) : KeptM w' B u M :=
  h.below ⟨hG.os, hG.tape, hG.output, hG.size, fun g hg => hG.block g (Nat.lt_of_lt_of_le hg h.2) (by intro e; have := hr g e.symm; omega)⟩ (Nat.le_refl _)
theorem OwnM.far (h : OwnM w base u M) {r : Option Nat} (hG : w.grownBy w' r) (hr : ∀ k, r = some k → k < base) : OwnM w' base u M := by
  cases r with
  | some k => exact h.grown hG (hr k rfl)
  | none =>
    obtain ⟨rs, hl, hO, hR, hD⟩ := h
    exact ⟨rs, hl, own_kept (u := .slice none 0 0) hO hG (fun k _ b => by cases b), fun i h1 h2 => own_kept (u := .slice none 0 0) (hR i h1 h2) hG (fun k _ b => by cases b), hD⟩
end
theorem cell_under {w w' : World} {B : Nat} {p : Addr} {v : Value} (h : w.cell? p = some v) (hb : Below B w w') (hp : p.block < B) : w'.cell? p = some v := (hb.cell hp).trans h
set_option maxHeartbeats 400000 in
set_option maxRecDepth 100000 in
theorem laws_eqInt64SS (v u : Value) (l m : List (List Int)) (w : World) (h0 : LstM w w.heap.size v l) (h1 : LstM w w.heap.size u m) :
    Calls Try.prog 30 #[v, u] w fun e w' => e = .returned (.bool (decide (l = m))) ∧ Below w.heap.size w w' := by
  obtain ⟨A, c, rfl⟩ := h0.shape
  obtain ⟨C, d, rfl⟩ := h1.shape
  have hl := h0.len_le
  have hm := h1.len_le
  by_cases hlm : l.length = m.length
  · have hne : ((l.length : Int) != (m.length : Int)) = false := by rw [hlm]; simp
    have hlm1 : l.length ≤ m.length := by omega
    have hlm2 : m.length ≤ l.length := by omega
    clear hlm
    go_enter Try.func30, Try.ntmps30
    go_wp2
    go_loopw [5] (fun i wr => ∃ k : Nat, k ≤ l.length ∧ i = .int .i64 k ∧ Hid (l.take k = m.take k) ∧ Below w.heap.size w wr) (fun i _ => l.length - (intOf i).toNat)
    case atStart => exact ⟨0, Nat.zero_le _, rfl, rfl, Below.refl _ _⟩
    case round =>
      obtain ⟨k, hk, rfl, hE, hB⟩ := hrel
      by_cases hlt : k < l.length
      · have hlt' : k < m.length := by omega
        obtain ⟨b, off, _, r, hv, hb, c0, hr⟩ := h0.row k hlt
        cases hv
        obtain ⟨b', off', _, r', hv, hb', d0, hr'⟩ := h1.row k hlt'
        cases hv
        obtain ⟨R, rn, rc⟩ := r
        obtain ⟨R', rn', rc'⟩ := r'
        simp only [Ref.val] at c0 d0 hr hr'
        obtain ⟨hc, hf⟩ := bcell hB
        have hd := hB.drew
        by_cases heq : l[k] = m[k]
        · have hq : decide (l[k] = m[k]) = true := decide_eq_true heq
          have heq' : Hid (l[k] = m[k]) := heq
          clear heq
          go_wp2_with fail
          go_still_tail 8, (by kernel_rfl)
          change wpList _ _ _ _ _ wr.drew
          go_wp2_with (go_at_call 25; refine (laws_eqInt64S _ _ l[k] m[k] _ (hr.now hd) (hr'.now hd)).mono ?_; rintro e w1 ⟨rfl, hb1⟩)
          go_roundw
          case rel =>
            have hE' : Hid (l.take (k + 1) = m.take (k + 1)) := by have := hE.out; have h2 := heq'.out; show _ = _; rw [take_succ_get _ _ hlt, take_succ_get _ _ hlt', this, h2]
            have hB' := hB.drew.trans (hb1.mono hB.size)
            first | exact ⟨k + 1, hlt, by go_num, hE', hB'⟩ | ((repeat apply Exists.intro); exact ⟨⟨k + 1, hlt, by go_num, hE', hB'⟩, rfl⟩)
          case measure => simp [intOf]; omega
        · have hq : decide (l[k] = m[k]) = false := decide_eq_false heq
          have heq' : Hid (¬ l[k] = m[k]) := heq
          clear heq
          go_wp2_with fail
          go_still_tail 8, (by kernel_rfl)
          change wpList _ _ _ _ _ wr.drew
          go_wp2_with (go_at_call 25; refine (laws_eqInt64S _ _ l[k] m[k] _ (hr.now hd) (hr'.now hd)).mono ?_; rintro e w1 ⟨rfl, hb1⟩)
          go_ret
          exact ⟨ret_bool (decide_eq_false (by intro h; exact heq'.out (by simp [h]))).symm, hB.drew.trans (hb1.mono hB.size)⟩
      · obtain rfl : k = l.length := by omega
        go_wp2
        go_ret
        exact ⟨ret_bool (decide_eq_true (by have h := hE.out; rw [List.take_length] at h; rw [h]; exact (List.take_of_length_le (by omega)))).symm, hB⟩
  · have hne : ((l.length : Int) != (m.length : Int)) = true := by rw [bne_iff_ne]; omega
    go_enter Try.func30, Try.ntmps30
    go_wp2
    go_ret
    exact ⟨ret_bool (decide_eq_false (by intro h; exact hlm (by rw [h]))).symm, Below.refl _ _⟩
set_option maxHeartbeats 400000 in
set_option maxRecDepth 100000 in
theorem laws_markInt64SS (v : Value) (l : List (List Int)) (k : Int) (base : Nat) (w : World) (h0 : OwnM w base v l) (h1 : offs l l.length ≤ 1048576) (h2 : 0 ≤ k) (h3 : k ≤ 1048576) :
    Calls Try.prog 32 #[v, .int .i64 k] w fun e w' => e = .returned (.int .i64 (k + offs l l.length)) ∧ OwnM w' base v (mksM k l l.length) ∧ Below base w w' := by
  obtain ⟨A, c, rfl⟩ := h0.shape
  have hmax := h0.lst.len_le
  go_enter Try.func32, Try.ntmps32
  go_wp2
  go_loopw [1, 5] (fun q i wr => ∃ j : Nat, j ≤ l.length ∧ i = .int .i64 j ∧ q = .int .i64 (k + offs l j) ∧ OwnM wr base (.slice A l.length c) (mksM k l j ++ l.drop j) ∧ Below base w wr) (fun _ i _ => l.length - (intOf i).toNat)
  case atStart => exact ⟨0, Nat.zero_le _, rfl, by simp [offs], by simpa [mksM] using h0, Below.refl _ _⟩
  case round =>
    obtain ⟨j, hj, rfl, rfl, hO, hB⟩ := hrel
    by_cases hlt : j < l.length
    · have hlen : j < (mksM k l j ++ l.drop j).length := by simp [mksM_len]; omega
      obtain ⟨g, c', r, hu, hbg, hg, hfz, hcell, hr, hne, hset, _⟩ := hO.row j hlen
      obtain rfl : A = some ⟨g, 0, none⟩ := by injection hu
      clear hu
      rw [mksM_at k j l hlt] at hr
      have ho := Lib.hid (offs_succ l j hlt)
      have ho2 := offs_le l j l.length hj (Nat.le_refl _)
      have ho3 : l[j].length ≤ 1048576 := by have := ho.out; have := offs_le l (j + 1) l.length hlt (Nat.le_refl _); omega
      have hset' := Lib.hid hset
      obtain ⟨R, rn, rc⟩ := r
      simp only [Ref.val] at hcell hr hset' hne
      clear hset hfz hne
      go_wp2_with (go_at_call 126; refine (laws_markInt64S _ l[j] (k + offs l j) base _ hr ho3 (by omega) (by omega)).mono ?_; rintro e w1 ⟨rfl, hO1, hG1⟩)
      go_roundw
      case rel =>
        have hM1 := hset'.out _ _ hO1 hG1
        rw [mksM_step _ _ _ hlt] at hM1
        exact ⟨j + 1, hlt, by go_num, by rw [ho.out]; go_num, hM1, hB.trans ⟨hG1.os, hG1.tape, hG1.output, hG1.size, fun q hq => hG1.block q (by omega) (by intro e; have := (hr.lt q e.symm).1; omega)⟩⟩
      case measure => simp [intOf]; omega
    · obtain rfl : j = l.length := by omega
      go_wp2
      go_ret
      exact ⟨rfl, by simpa using hO, hB⟩
set_option maxHeartbeats 400000 in
set_option maxRecDepth 100000 in
theorem laws_heldInt64SS (v : Value) (l : List (List Int)) (k : Int) (w : World) (B : Nat) (h0 : LstM w B v (mksM k l l.length)) (h1 : offs l l.length ≤ 1048576) (h2 : 0 ≤ k) (h3 : k ≤ 1048576) :
    Calls Try.prog 33 #[v, .int .i64 k] w fun e w' => e = .returned (.int .i64 (k + offs l l.length)) ∧ w = w' := by
  obtain ⟨A, c, rfl⟩ := h0.shape
  have hmax := h0.len_le
  rw [mksM_len] at hmax h0 ⊢
  go_enter Try.func33, Try.ntmps33
  go_wp2
  go_loop [1, 5] (fun q i => ∃ j : Nat, j ≤ l.length ∧ i = .int .i64 j ∧ q = .int .i64 (k + offs l j)) (fun _ i => l.length - (intOf i).toNat)
  case atStart => exact ⟨0, Nat.zero_le _, rfl, by simp [offs]⟩
  case round =>
    obtain ⟨j, hj, rfl, rfl⟩ := hrel
    by_cases hlt : j < l.length
    · have hlen : j < (mksM k l l.length).length := by simp [mksM_len]; omega
      obtain ⟨b, off, _, r, hv, hb, c0, hr⟩ := h0.row j hlen
      obtain rfl : A = some ⟨b, off, none⟩ := by injection hv
      clear hv
      rw [mksM_get k l _ _ hlen hlt] at hr
      have ho := Lib.hid (offs_succ l j hlt)
      have ho2 := offs_le l j l.length hj (Nat.le_refl _)
      have ho3 : l[j].length ≤ 1048576 := by have := ho.out; have := offs_le l (j + 1) l.length hlt (Nat.le_refl _); omega
      obtain ⟨R, rn, rc⟩ := r
      simp only [Ref.val] at c0 hr
      go_wp2_with (go_at_call 127; refine (laws_heldInt64S _ l[j].length (k + offs l j) _ _ hr ho3 (by omega) (by omega)).mono ?_; rintro e w1 ⟨rfl, rfl⟩)
      go_round
      case rel => exact ⟨j + 1, hlt, by go_num, by rw [ho.out]; go_num⟩
      case measure => simp [intOf]; omega
    · obtain rfl : j = l.length := by omega
      go_wp2
      go_ret
      exact ⟨rfl, rfl⟩
end Go.Proofs.Ytpkkkigiiaegfaa
