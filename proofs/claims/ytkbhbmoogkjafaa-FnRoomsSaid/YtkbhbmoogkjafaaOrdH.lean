/-
  The firing order, the reference's.
-/
import Derived.Test.YtkbhbmoogkjafaaOrdG
namespace Go.Proofs.Ytkbhbmoogkjafaa
open Go.RowKit
set_option linter.unusedVariables false
set_option linter.unusedSimpArgs false

theorem hasI_contains (o : List Int) (x : Int) : hasI o x = o.contains x := by
  rw [Bool.eq_iff_iff, hasI_iff]
  simp
/-- Whether an event is ready, as far as the first k events have been looked at. -/
def rdK (F : Nat → Nat → Int) (o : List Int) (e k : Nat) : Bool := !hasI o e && (List.range k).all fun x => decide (F e x = bot) || hasI o (x : Int)
theorem rdK_zero (F : Nat → Nat → Int) (o : List Int) (e : Nat) : rdK F o e 0 = !hasI o e := by simp [rdK]
theorem rdK_succ (F : Nat → Nat → Int) (o : List Int) (e k : Nat) : rdK F o e (k + 1) = (rdK F o e k && (decide (F e k = bot) || hasI o (k : Int))) := by
  unfold rdK
  rw [List.range_succ, List.all_append, Bool.and_assoc]
  simp
theorem rdK_all {n : Nat} {gp : List Place} (hok : okGraph n gp = true) (o : List Int) (e : Nat) : rdK (freeF gp) o e n = readyO gp o (e : Int) := by
  unfold rdK readyO waitsO
  rw [hasI_contains]
  congr 1
  rw [Bool.eq_iff_iff]
  simp only [List.all_eq_true, Bool.not_eq_true', List.any_eq_false]
  constructor
  · intro h p hp hq
    simp only [Bool.and_eq_true, beq_iff_eq, Bool.not_eq_true'] at hq
    have hr := okGraph_place hok hp
    have h1 := h p.src.toNat (List.mem_range.2 (by omega))
    rcases freeF_arc hok e p.src.toNat with ⟨_, h2⟩ | ⟨h2, _⟩
    · rw [h2] at h1
      have h3 : hasI o ((p.src.toNat : Nat) : Int) = true := by simpa [bot] using h1
      rw [show ((p.src.toNat : Nat) : Int) = p.src by omega, hasI_contains] at h3
      rw [hq.2] at h3
      cases h3
    · exact h2 ⟨p, hp, by omega, hq.1.1, hq.1.2⟩
  · intro h x hx
    rcases freeF_arc hok e x with ⟨⟨p, hp, h1, h2, h3⟩, _⟩ | ⟨_, h2⟩
    · have h4 := h p hp
      have h5 : o.contains p.src = true := by
        cases hc : o.contains p.src
        · exact absurd (by simp [h2, h3]; simpa using hc) h4
        · rfl
      rw [h1] at h5
      simp only [Bool.or_eq_true]
      right
      rw [hasI_contains]
      exact h5
    · simp [h2]
theorem nextO_hit {n : Nat} {gp : List Place} {o : List Int} {j : Nat} (hj : j < n) (hN : ∀ x, x < j → readyO gp o (x : Int) = false) (hr : readyO gp o (j : Int) = true) : nextO n gp o = some j := by
  unfold nextO
  rw [List.find?_range_eq_some]
  exact ⟨by simpa using hr, List.mem_range.2 hj, fun x hx => by simpa using hN x hx⟩
theorem nextO_miss {n : Nat} {gp : List Place} {o : List Int} (hN : ∀ x, x < n → readyO gp o (x : Int) = false) : nextO n gp o = none := by
  unfold nextO
  rw [List.find?_eq_none]
  intro x hx
  simp [hN x (List.mem_range.1 hx)]
theorem orderK_go {n : Nat} {gp : List Place} {o : List Int} {k j : Nat} (h : orderK n gp k = some o) (hx : nextO n gp o = some j) : orderK n gp (k + 1) = some (o ++ [(j : Int)]) := by
  simp only [orderK, h, Option.bind_some, hx]
  rfl
theorem orderK_stuck {n : Nat} {gp : List Place} {o : List Int} {k : Nat} (hk : k < n) (h : orderK n gp k = some o) (hx : nextO n gp o = none) : orderF n gp = none := by
  refine orderK_none (k + 1) n ?_ hk
  simp only [orderK, h, Option.bind_some, hx]
  rfl
def lenV : Value → Nat
  | .slice _ n _ => n
  | _ => 0
set_option maxHeartbeats 4000000 in
set_option maxRecDepth 100000 in
theorem spec_l12Order (v : Value) (n : Nat) (gp : List Place) (o : List Int) (w : World) (h0 : Lst Place.cells 4 w w.heap.size v gp) (hok : Hid (okGraph n gp = true)) (ho : Hid (orderF n gp = some o)) :
    Calls Try.prog 191 #[.agg #[.int .i64 n, v]] w (RetOwn intCell 1 2 w o) := by
  obtain ⟨A, c, rfl⟩ := h0.shape
  obtain ⟨hge1, hge2⟩ := okGraph_ev hok.out
  go_enter Try.func191, Try.ntmps191
  go_wp2_with fail
  have hW : Below w.heap.size w (w.alloc (.cells #[.int .i64 (n:Int), .slice A gp.length c] 26)) := (Below.refl _ _).alloc (Nat.le_refl _) _; have hb0 : Blk (w.alloc (.cells #[.int .i64 (n:Int), .slice A gp.length c] 26)) w.heap.size 26 #[.int .i64 (n:Int), .slice A gp.length c] := Blk.new _ _ _; replace h0 := h0.now hW; generalize (w.alloc (.cells #[.int .i64 (n:Int), .slice A gp.length c] 26)) = W at *
  have hWs := hW.size
  refine (spec_l12Free _ n gp W h0 hok.out).mono ?_
  rintro e w1 ⟨u, rfl, hM, hB⟩
  obtain ⟨A1, c1, rfl⟩ := hM.shape
  rw [freeM_len] at hM ⊢
  have hs1 := hB.size
  have hb1 := hb0.now hB
  obtain ⟨k0, k1⟩ := hb1.c2
  have l0 := hb1.lt
  go_wp2
  clear k0 k1 l0
  go_loopw [4, 5, 6, 7] (fun ov _ _ _ wr => ∃ (k : Nat) (o' : List Int) (Y : Option Addr) (cy : Nat), k ≤ n ∧ ov = .slice Y k cy ∧ Hid (orderK n gp k = some o') ∧ Own intCell 1 2 wr w1.heap.size (.slice Y k cy) o' ∧ Below w1.heap.size w1 wr) (fun ov _ _ _ _ => n - lenV ov)
  case atStart => exact ⟨0, [], _, _, Nat.zero_le _, rfl, rfl, own_new0 _ _ _ _ _ (Nat.le_refl _), (Below.refl _ _).alloc (Nat.le_refl _) _⟩
  case round =>
    obtain ⟨k, o', Y, cy, hk, rfl, hK, hO, hB1⟩ := hrel
    have hlo := (orderK_ok k o' hK.out).len
    have hs := hB1.size
    obtain ⟨wo, hwo⟩ : ∃ x, x = wr := ⟨_, rfl⟩
    subst hwo
    obtain ⟨k0, k1⟩ := (hb1.now hB1).c2
    have l0 := (hb1.now hB1).lt
    by_cases hlt : k < n
    · go_wp2
      clear k0 k1 l0
      go_loopw [4, 5, 6, 7] (fun ov i _ _ wr => ∃ j : Nat, j ≤ n ∧ ov = .slice Y k cy ∧ i = .int .i64 j ∧ Hid (∀ x, x < j → readyO gp o' (x : Int) = false) ∧ Below wo.heap.size wo wr) (fun _ i _ _ _ => n - (intOf i).toNat)
      case atStart => exact ⟨0, Nat.zero_le _, rfl, rfl, fun x q => absurd q (by omega), Below.refl _ _⟩
      case round =>
        obtain ⟨j, hj, rfl, rfl, hN, hB2⟩ := hrel
        have hs2 := hB2.size
        obtain ⟨wp, hwp⟩ : ∃ x, x = wr := ⟨_, rfl⟩
        subst hwp
        have hBp := hB1.trans (hB2.mono hs)
        have hsp := hBp.size
        obtain ⟨k0, k1⟩ := (hb1.now hBp).c2
        have l0 := (hb1.now hBp).lt
        by_cases hlt2 : j < n
        · have hOp := hO.now hB2
          go_wp2_with (go_at_call 201; refine (spec_l01Has _ _ _ _ hOp.lst).mono ?_; rintro e w5 ⟨rfl, rfl⟩)
          clear k0 k1 l0
          go_loopw [6, 7] (fun r i wr => ∃ m : Nat, m ≤ n ∧ r = .bool (rdK (freeF gp) o' j m) ∧ i = .int .i64 m ∧ Below wp.heap.size wp wr) (fun _ i _ => n - (intOf i).toNat)
          case atStart => exact ⟨0, Nat.zero_le _, by rw [rdK_zero], rfl, Below.refl _ _⟩
          case round =>
            obtain ⟨m, hm, rfl, rfl, hB3⟩ := hrel
            have hBq := hBp.trans (hB3.mono hsp)
            obtain ⟨k0, k1⟩ := (hb1.now hBq).c2
            have l0 := (hb1.now hBq).lt
            by_cases hlt3 : m < n
            · obtain ⟨b3, off3, cM3, r3, hu3, hb3, r0, hr⟩ := ((hM.now hBq).lst).row j (by rw [freeM_len]; exact hlt2)
              rw [freeM_len] at hu3
              cases hu3
              obtain ⟨R, rc3, hv⟩ := hr.shape
              rw [freeM_row] at hv
              rw [hv] at hr r0
              obtain ⟨rb3, ro3, hR, _, q0⟩ := ints_at hr m (by rw [freeM_row]; exact hlt3)
              cases hR
              rw [freeM_get _ _ _ _ _ (by rw [freeM_row]; exact hlt3)] at q0
              clear hr hv
              have j1 : (0 : Int) ≤ (j : Int) := by omega
              have j2 : (j : Int) < (n : Int) := by omega
              have j3 : (0 : Int) ≤ (m : Int) := by omega
              have j4 : (m : Int) < (n : Int) := by omega
              have hS := Lib.hid (rdK_succ (freeF gp) o' j m)
              have hOq := hOp.now hB3
              cases hrd : rdK (freeF gp) o' j m
              · have hS' : Hid (rdK (freeF gp) o' j (m + 1) = false) := by show _ = _; rw [hS.out, hrd]; rfl
                clear hrd
                go_wp2
                go_roundw
                case rel => exact ⟨m + 1, hlt3, by rw [hS'.out], by go_num, hB3⟩
                case measure => simp [intOf]; omega
              · by_cases hb : freeF gp j m = bot
                · have hS' : Hid (rdK (freeF gp) o' j (m + 1) = true) := by show _ = _; rw [hS.out, hrd, hb]; simp
                  rw [hb, show bot = -1000000000000000 from rfl] at q0
                  clear hrd hb
                  go_wp2
                  go_roundw
                  case rel => exact ⟨m + 1, hlt3, by rw [hS'.out], by go_num, hB3⟩
                  case measure => simp [intOf]; omega
                · have hS' : Hid (rdK (freeF gp) o' j (m + 1) = hasI o' (m : Int)) := by show _ = _; rw [hS.out, hrd]; simp [hb]
                  have hz : freeF gp j m = 0 := by
                    rcases freeF_arc hok.out j m with ⟨_, h⟩ | ⟨_, h⟩
                    · exact h
                    · exact absurd h hb
                  rw [hz] at q0
                  clear hrd hb hz
                  go_wp2_with (go_at_call 201; refine (spec_l01Has _ _ _ _ hOq.lst).mono ?_; rintro e w5 ⟨rfl, rfl⟩)
                  go_roundw
                  case rel => exact ⟨m + 1, hlt3, by rw [hS'.out], by go_num, hB3⟩
                  case measure => simp [intOf]; omega
            · obtain rfl : m = n := by omega
              have hRD := Lib.hid (rdK_all hok.out o' j)
              have hBs := hB2.trans (hB3.mono hs2)
              cases hrd : readyO gp o' (j : Int)
              · have hN' : Hid (∀ x, x < j + 1 → readyO gp o' (x : Int) = false) := by
                  intro x q
                  by_cases e : x = j
                  · subst e; exact hrd
                  · exact hN.out x (by omega)
                rw [hRD.out, hrd]
                clear hrd
                go_wp2
                go_roundw
                case rel => exact ⟨j + 1, hlt2, rfl, by go_num, hN', hBs⟩
                case measure => simp [intOf]; omega
              · have hK' : Hid (orderK m gp (k + 1) = some (o' ++ [(j : Int)])) := orderK_go hK.out (nextO_hit hlt2 hN.out hrd)
                rw [hRD.out, hrd]
                clear hrd
                have hlen : o'.length + [(j : Int)].length ≤ 1099511627776 := by simp; omega
                have hOs := hO.now hBs
                have hBt := hB1.trans (hBs.mono hs)
                have hst := hBt.size
                have hLL : Hid ((o' ++ [(j : Int)]).length = k + 1) := by show _ = _; simp [hlo]
                go_wp2_with (at_builtin; refine wpList_append_lst rfl _ _ 38 rfl intCell 1 intCell_one (by omega) w1.heap.size 2 _ 8 Try.underlying38 info_i64 rfl _ _ rfl (hOs.alloc _) _ _ _ _ [(j : Int)] rfl (lst_new1 _ _ intCell_len _ _ _ _ rfl _ (by simp)) hlen (by omega) (Nat.le_trans hst (by simp <;> omega)) ?_; intro v' w5 hO1 hG1 hD1; obtain ⟨V1, cv1, rfl⟩ := own_shape_n hO1 hLL.out)
                go_roundw
                case rel => exact ⟨k + 1, _, _, _, hlt, rfl, hK', hO1, below_app (hBt.alloc hst _) (Nat.le_trans hst (by simp)) hG1 (hOs.alloc _) (Nat.le_refl _)⟩
                case measure => simp [lenV]; omega
        · obtain rfl : j = n := by omega
          exfalso
          have := orderK_stuck hlt hK.out (nextO_miss hN.out)
          rw [ho.out] at this
          cases this
    · obtain rfl : k = n := by omega
      have hE : o' = o := by
        have h1 := hK.out
        have h2 := ho.out
        unfold orderF at h2
        rw [h1] at h2
        injection h2
      subst hE
      go_wp2
      go_ret
      exact ⟨_, rfl, hO.rebase (Nat.le_trans hWs hs1), hW.trans ((hB.trans (hB1.mono hs1)).mono hWs)⟩
end Go.Proofs.Ytkbhbmoogkjafaa
