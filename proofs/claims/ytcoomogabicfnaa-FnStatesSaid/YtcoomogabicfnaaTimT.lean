/-
  FiringTimes and FiringTime, both.
-/
import Derived.Test.YtcoomogabicfnaaLive
import Derived.Test.YtcoomogabicfnaaTim
import Derived.Test.YtcoomogabicfnaaTimS
import Derived.Test.YtcoomogabicfnaaMatLaw
namespace Go.Proofs.Ytcoomogabicfnaa
open Go.RowKit
set_option linter.unusedVariables false
set_option linter.unusedSimpArgs false

/-- The code of a graph that has to be live, with arguments that are in range or not. -/
def timC (ge : Int) (gp : List Place) (b : Bool) : Int := if okGraph ge gp = false then 1 else if b = false then 2 else if (orderF ge.toNat gp).isNone = true then 5 else 0
def zeros (n : Nat) : List Int := List.replicate n 0
theorem zeros_len (n : Nat) : (zeros n).length = n := by simp [zeros]
theorem zeros_ok (n : Nat) : ∀ x ∈ zeros n, 0 ≤ x ∧ x ≤ ((1000000 : Nat) : Int) := by
  intro x hx
  rw [List.eq_of_mem_replicate hx]
  omega
/-- What FiringTimes gives. -/
def timesF (ge : Int) (gp : List Place) (N : Int) : List (List Int) × Int :=
  if timC ge gp (inB N 0 50) = 0 then (timT gp ((orderF ge.toNat gp).getD []) (zeros ge.toNat) N.toNat, 0) else ([], timC ge gp (inB N 0 50))
/-- What FiringTime gives. -/
def timeF (ge : Int) (gp : List Place) (e k : Int) : Int × Int :=
  if timC ge gp (inB e 0 (ge - 1) && inB k 1 50) = 0 then (getT (timT gp ((orderF ge.toNat gp).getD []) (zeros ge.toNat) k.toNat) (k.toNat - 1) e.toNat, 0) else (0, timC ge gp (inB e 0 (ge - 1) && inB k 1 50))
theorem timC_zero {ge : Int} {gp : List Place} {b : Bool} (h : timC ge gp b = 0) : okGraph ge gp = true ∧ b = true ∧ ∃ o, orderF ge.toNat gp = some o := by
  unfold timC at h
  cases hg : okGraph ge gp
  · rw [hg] at h; simp at h
  · cases hb : b
    · rw [hg, hb] at h; simp at h
    · cases ho : orderF ge.toNat gp with
      | none => rw [hg, hb, ho] at h; simp at h
      | some o => exact ⟨rfl, rfl, o, rfl⟩
theorem offs_tab {n m c : Nat} {T : List (List Int)} (h : TabOk n m c T) : ∀ j, j ≤ T.length → offs T j = n * j := by
  intro j
  induction j with
  | zero => intro _; simp [offs]
  | succ j ih =>
    intro hj
    rw [offs_succ _ _ (by omega), ih (by omega), h.lenAt j (by omega), Nat.mul_succ]
theorem timesF_offs (ge : Int) (gp : List Place) (N : Int) : offs (timesF ge gp N).1 (timesF ge gp N).1.length ≤ 1048576 := by
  unfold timesF
  split
  · rename_i h
    obtain ⟨hg, hb, o, ho⟩ := timC_zero h
    obtain ⟨h1, h2⟩ := okGraph_ev hg
    have h3 := (inB_iff _ _ _).1 hb
    obtain ⟨n, rfl⟩ := Int.eq_ofNat_of_zero_le (show 0 ≤ ge by omega)
    rw [Int.toNat_natCast] at ho ⊢
    rw [ho]
    have hT := TabOk.times hg (okGraph_len hg) (o := o) (s := zeros n) (by have := (orderK_ok n o ho).len; omega) (zeros_len n) (zeros_ok n) N.toNat
    show offs (timT gp o (zeros n) N.toNat) (timT gp o (zeros n) N.toNat).length ≤ 1048576
    rw [offs_tab hT _ (Nat.le_refl _), hT.len]
    exact Nat.le_trans (Nat.mul_le_mul (show n ≤ 10 by omega) (show N.toNat ≤ 50 by omega)) (by decide)
  · simp [offs]
set_option maxHeartbeats 2000000 in
set_option maxRecDepth 100000 in
theorem spec_l13Code (v : Value) (ge : Int) (gp : List Place) (b : Bool) (w : World) (h0 : Lst Place.cells 4 w w.heap.size v gp) :
    Calls Try.prog 32 #[.agg #[.int .i64 ge, v], .bool b] w fun r w' => r = .returned (.int .i64 (timC ge gp b)) ∧ Below w.heap.size w w' := by
  obtain ⟨A, c, rfl⟩ := h0.shape
  go_enter Try.func32, Try.ntmps32
  go_wp2_with fail
  have hW : Below w.heap.size w (w.alloc (.cells #[.int .i64 ge, .slice A gp.length c] 26)) := (Below.refl _ _).alloc (Nat.le_refl _) _; have hb0 : Blk (w.alloc (.cells #[.int .i64 ge, .slice A gp.length c] 26)) w.heap.size 26 #[.int .i64 ge, .slice A gp.length c] := Blk.new _ _ _; replace h0 := h0.now hW; generalize (w.alloc (.cells #[.int .i64 ge, .slice A gp.length c] 26)) = W at *
  refine (spec_l12Live _ _ _ _ h0).mono ?_
  rintro e w1 ⟨rfl, hB⟩
  replace hB := hW.trans (hB.mono hW.size)
  cases hg : okGraph ge gp
  · have hC : liveC ge gp = 1 := by simp [liveC, hg]
    have hE : Hid (timC ge gp b = 1) := by show _ = _; simp [timC, hg]
    rw [hC]
    clear hg hC
    go_wp2
    go_ret
    exact ⟨ret_int hE.out.symm, hB⟩
  · obtain ⟨hge1, hge2⟩ := okGraph_ev hg
    obtain ⟨n, rfl⟩ := Int.eq_ofNat_of_zero_le (show 0 ≤ ge by omega)
    have hg' := Lib.hid hg
    clear hg
    cases ho : orderF n gp with
    | none =>
      have hC : liveC n gp = 5 := by simp [liveC, hg'.out, ho]
      rw [hC]
      cases hb : b
      · have hE : Hid (timC n gp false = 2) := by show _ = _; simp [timC, hg'.out]
        subst hb
        clear ho hC
        go_wp2
        go_ret
        exact ⟨ret_int hE.out.symm, hB⟩
      · have hE : Hid (timC n gp true = 5) := by show _ = _; simp [timC, hg'.out, ho]
        subst hb
        clear ho hC
        go_wp2
        go_ret
        exact ⟨ret_int hE.out.symm, hB⟩
    | some o =>
      have hC : liveC n gp = 0 := by simp [liveC, hg'.out, ho]
      rw [hC]
      cases hb : b
      · have hE : Hid (timC n gp false = 2) := by show _ = _; simp [timC, hg'.out]
        subst hb
        clear ho hC
        go_wp2
        go_ret
        exact ⟨ret_int hE.out.symm, hB⟩
      · have hE : Hid (timC n gp true = 0) := by show _ = _; simp [timC, hg'.out, ho]
        subst hb
        clear ho hC
        go_wp2
        go_ret
        exact ⟨ret_int hE.out.symm, hB⟩
end Go.Proofs.Ytcoomogabicfnaa
