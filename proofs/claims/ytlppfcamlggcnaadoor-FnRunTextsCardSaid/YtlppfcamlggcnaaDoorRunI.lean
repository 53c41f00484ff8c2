/-
  The walks of the program's IsRun.
-/
import Derived.Test.YtlppfcamlggcnaaDoorRunP
import Derived.Test.YtlppfcamlggcnaaDoorMat
import Derived.Test.YtlppfcamlggcnaaDoorCore
import Derived.IntWalk
namespace Go.Proofs.YtlppfcamlggcnaaDoor
open Go.RowKit
set_option linter.unusedVariables false
set_option linter.unusedSimpArgs false

def rowOf (M : List (List Int)) (i : Int) : List Int := M.getD i.toNat []
theorem rowOf_nat (M : List (List Int)) (i : Nat) (h : i < M.length) : rowOf M (i : Int) = M[i] := by simp [rowOf, List.getD, List.getElem?_eq_getElem h]
theorem readyS_leM {ge : Int} {gp : List Place} {M : List (List Int)} (hok : okGraph ge gp = true) (hr : ∀ r ∈ M, ∀ x ∈ r, 0 ≤ x ∧ x ≤ 1000000) (e : Int) (k : Nat) (hk : k ≤ gp.length) (t : Int) (h : readyS (gp.take k) (rowOf M) e = some t) : 0 ≤ t ∧ t ≤ 1001000 := by
  have hx : ∀ i j, 0 ≤ (rowOf M i).getD j 0 ∧ (rowOf M i).getD j 0 ≤ 1000000 := by
    intro i j
    by_cases hj : j < (rowOf M i).length
    · simp only [List.getD, List.getElem?_eq_getElem hj, Option.getD_some]
      by_cases hi : i.toNat < M.length
      · have e1 : rowOf M i = M[i.toNat] := by simp [rowOf, List.getD, List.getElem?_eq_getElem hi]
        exact hr (rowOf M i) (by rw [e1]; exact List.getElem_mem hi) _ (List.getElem_mem hj)
      · have e1 : rowOf M i = [] := by simp [rowOf, List.getD, List.getElem?_eq_none (Nat.le_of_not_lt hi)]
        rw [e1] at hj
        simp at hj
    · simp [List.getD, List.getElem?_eq_none (Nat.le_of_not_lt hj)]
  induction k generalizing t with
  | zero => simp [readyS] at h; omega
  | succ k ih =>
    rw [readyS_succ _ _ _ _ (by omega)] at h
    cases ho : readyS (gp.take k) (rowOf M) e with
    | none => rw [ho] at h; cases h
    | some t0 =>
      rw [ho] at h
      have h0 := ih (by omega) t0 ho
      have hp := okGraph_place hok (List.getElem_mem (show k < gp.length by omega))
      have hq := hx gp[k].src ((rowOf M e).length - gp[k].tokens.toNat)
      simp only [stepR, Option.bind_some] at h
      split at h
      · cases h; exact h0
      · split at h
        · cases h
        · cases h
          have := hp.2.2.1
          omega
set_option maxHeartbeats 4000000 in
set_option maxRecDepth 100000 in
theorem impl_readyTime (v : Value) (ge : Int) (gp : List Place) (u : Value) (M : List (List Int)) (e : Nat) (w : World) (h0 : Lst Place.cells 4 w w.heap.size v gp) (h1 : LstM w w.heap.size u M)
    (hok : okGraph ge gp = true) (hge : (M.length : Int) = ge) (he : e < M.length) (hx : Hid (∀ r ∈ M, r.length ≤ 1000 ∧ ∀ x ∈ r, 0 ≤ x ∧ x ≤ 1000000)) :
    Calls Tryd.prog 102 #[.agg #[.int .i64 ge, v], u, .int .i64 e] w fun r w' => r = .returned (.tuple #[.int .i64 ((readyS gp (rowOf M) e).getD 0), .bool (readyS gp (rowOf M) e).isSome]) ∧ Below w.heap.size w w' := by
  obtain ⟨A, c, rfl⟩ := h0.shape
  obtain ⟨C, d, rfl⟩ := h1.shape
  have hgl := okGraph_len hok
  obtain ⟨hge1, hge2⟩ := okGraph_ev hok
  have hg' := Lib.hid hok
  have hge' := Lib.hid hge
  clear hge
  have hle := Lib.hid (readyS_leM hok (fun r hr => (hx.out r hr).2) e)
  clear hok
  have hel := (hx.out _ (List.getElem_mem he)).1
  have hre := Lib.hid (rowOf_nat M e he)
  obtain ⟨mb, mo, _, re, hv, hmb, ec, hr⟩ := h1.row e he
  obtain rfl : C = some ⟨mb, mo, none⟩ := by injection hv
  obtain ⟨E1, e1c, hE⟩ := hr.shape
  rw [hE] at ec
  have hmx := h1.len_le
  clear hv hr hE
  go_enter Tryd.func102, Tryd.ntmps102
  go_wp2
  have hW : Below w.heap.size w (w.alloc (.cells #[.int .i64 ge, .slice A gp.length c] 27)) := (Below.refl _ _).alloc (Nat.le_refl _) _
  have hb0 : Blk (w.alloc (.cells #[.int .i64 ge, .slice A gp.length c] 27)) w.heap.size 27 #[.int .i64 ge, .slice A gp.length c] := Blk.new _ _ _
  clear ec hmb
  replace h0 := h0.now hW
  replace h1 := h1.now hW
  generalize w.alloc (.cells #[.int .i64 ge, .slice A gp.length c] 27) = W at *
  have hWs := hW.size
  go_loopw [9, 11, 12, 22] (fun t _ _ i wr => ∃ (k : Nat) (tv : Int), k ≤ gp.length ∧ i = .int .i64 k ∧ t = .int .i64 tv ∧ Hid (readyS (gp.take k) (rowOf M) e = some tv) ∧ Below W.heap.size W wr) (fun _ _ _ i _ => gp.length - (intOf i).toNat)
  case atStart => exact ⟨0, 0, Nat.zero_le _, rfl, rfl, rfl, Below.refl _ _⟩
  case round =>
    obtain ⟨k, tv, hk, rfl, rfl, hS, hB⟩ := hrel
    have hs := hB.size
    have l0w := (hb0.now hB).lt
    obtain ⟨k0, k1⟩ := (hb0.now hB).c2
    obtain ⟨t1, t2⟩ := hle.out k hk tv hS.out
    by_cases hlt : k < gp.length
    · obtain ⟨b, off, hA0, hbb, d0, d1, d2, d3⟩ := places_at (h0.now hB) k hlt
      cases hA0
      have hp := okGraph_place hg'.out (List.getElem_mem hlt)
      obtain ⟨p1, p2⟩ := hp.2.2.1
      obtain ⟨p3, p4⟩ := hp.2.2.2
      obtain ⟨p5, p6⟩ := hp.1
      clear hp
      have hSS := readyS_succ gp (rowOf M) e k hlt
      rw [hS.out] at hSS
      simp only [stepR, Option.bind_some] at hSS
      rw [hre.out] at hSS
      by_cases hd : gp[k].dst = (e : Int)
      · have q1 : (gp[k].dst != (e : Int)) = false := by simp [hd]
        by_cases ht : (M[e].length : Int) + 1 ≤ gp[k].tokens
        · rw [if_pos (.inr ht)] at hSS
          have hS' := Lib.hid hSS
          have q2 : decide ((M[e].length : Int) + 1 ≤ gp[k].tokens) = true := decide_eq_true ht
          clear hSS hd ht
          go_wp2
          go_roundw
          case rel => exact ⟨k + 1, tv, hlt, by go_num, rfl, hS', hB.alloc hs _⟩
          case measure => simp [intOf]; omega
        · rw [if_neg (by rintro (h | h); exact h hd; exact ht h)] at hSS
          obtain ⟨tk, htk⟩ := Int.eq_ofNat_of_zero_le p3
          obtain ⟨s, hs0⟩ := Int.eq_ofNat_of_zero_le p5
          have hsl : s < M.length := by have := hge'.out; omega
          rw [htk] at d3 ht hSS p3 p4
          rw [hs0] at d0 hSS
          rw [Int.toNat_natCast, rowOf_nat M s hsl] at hSS
          have q2 : decide ((M[e].length : Int) + 1 ≤ (tk : Int)) = false := decide_eq_false ht
          have hsm := (hx.out _ (List.getElem_mem hsl)).1
          obtain ⟨_, _, _, rs, hv, _, sc, hrs⟩ := (h1.now hB).row s hsl
          cases hv
          obtain ⟨S1, s1c, hE⟩ := hrs.shape
          rw [hE] at sc hrs
          have i1 : (0 : Int) ≤ (s : Int) := by omega
          have i2 : (s : Int) < (M.length : Int) := by omega
          clear hE
          by_cases hm : M[s].length < M[e].length + 1 - tk
          · rw [if_pos hm] at hSS
            have q3 : decide ((M[s].length : Int) < (M[e].length : Int) + 1 - (tk : Int)) = true := by simp; omega
            have hF : Hid (readyS gp (rowOf M) e = none) := readyS_none _ _ _ _ hSS
            have ht' : (tk : Int) ≤ (M[e].length : Int) := by omega
            clear hSS hd ht hm htk hs0
            go_wp2
            go_ret2
            exact ⟨by rw [hF.out]; rfl, hW.trans ((hB.alloc hs _).mono hWs)⟩
          · rw [if_neg hm] at hSS
            have q3 : decide ((M[s].length : Int) < (M[e].length : Int) + 1 - (tk : Int)) = false := by simp; omega
            have ht' : (tk : Int) ≤ (M[e].length : Int) := by omega
            obtain ⟨mi, hmi⟩ : ∃ mi : Nat, M[e].length - tk = mi := ⟨_, rfl⟩
            have hmi2 : (M[e].length : Int) + 1 - (tk : Int) = (mi : Int) + 1 := by omega
            have hml : mi < M[s].length := by omega
            obtain ⟨sb, so, hS1, hsb, sx⟩ := ints_at hrs mi hml
            cases hS1
            obtain ⟨x1, x2⟩ := (hx.out _ (List.getElem_mem hsl)).2 _ (List.getElem_mem hml)
            rw [hmi, show M[s].getD mi 0 = M[s][mi] by simp [List.getD, List.getElem?_eq_getElem hml], max_if2] at hSS
            have hS' := Lib.hid hSS
            clear hSS hd ht hm htk hs0 hmi
            have hix : ((mi : Int) + 1 - 1).toNat = mi := by omega
            go_wp2_with fail
            go_region
            go_wp2
            go_roundw
            case rel => exact ⟨k + 1, _, hlt, by go_num, rfl, hS', (hB.alloc hs _).drew⟩
            case measure => simp [intOf]; omega
      · rw [if_pos (.inl hd)] at hSS
        have hS' := Lib.hid hSS
        have q1 : (gp[k].dst != (e : Int)) = true := by simp [hd]
        clear hSS hd
        go_wp2
        go_roundw
        case rel => exact ⟨k + 1, tv, hlt, by go_num, rfl, hS', hB.alloc hs _⟩
        case measure => simp [intOf]; omega
    · obtain rfl : k = gp.length := by omega
      have hF : Hid (readyS gp (rowOf M) e = some tv) := by have := hS.out; rwa [List.take_length] at this
      go_wp2
      go_ret2
      exact ⟨by rw [hF.out]; rfl, hW.trans (hB.mono hWs)⟩
end Go.Proofs.YtlppfcamlggcnaaDoor
