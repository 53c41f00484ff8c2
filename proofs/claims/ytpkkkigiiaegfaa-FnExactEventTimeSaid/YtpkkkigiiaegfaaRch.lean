/-
  The walk of the reference's table of what reaches what.
-/
import Derived.Test.YtpkkkigiiaegfaaDistA
namespace Go.Proofs.Ytpkkkigiiaegfaa
open Go.RowKit
set_option linter.unusedVariables false
set_option linter.unusedSimpArgs false
def boolCell (b : Bool) : List Value := [.bool b]
theorem boolCell_len (b : Bool) : (boolCell b).length = 1 := rfl
theorem own_bools_at {w : World} {base : Nat} {e : TypeId} {l : List Bool} {g n c : Nat} (h : Own boolCell 1 e w base (.slice (some ⟨g, 0, none⟩) n c) l) (k : Nat) (hk : k < l.length) :
    base ≤ g ∧ g < w.heap.size ∧ (∀ j, w.frozen? ⟨g, j, none⟩ = false) ∧ w.cell? ⟨g, k, none⟩ = some (.bool l[k]) := by
  obtain ⟨g', c', hv, hb, hg, hfz, hc⟩ := h.at_ boolCell_len k hk
  injection hv with hA _ _
  obtain rfl : g = g' := by injection hA with hA; injection hA
  exact ⟨hb, hg, hfz, by simpa using hc 0 _ (by omega) rfl⟩
theorem bools_at {w : World} {B : Nat} {l : List Bool} {A : Option Addr} {n c : Nat} (h : Lst boolCell 1 w B (.slice A n c) l) (k : Nat) (hk : k < l.length) :
    ∃ b off, A = some ⟨b, off, none⟩ ∧ b < B ∧ w.cell? ⟨b, off + k, none⟩ = some (.bool l[k]) := by
  obtain ⟨b, off, c', hv, hb, hc⟩ := h.at_ boolCell_len k hk
  injection hv with hA _ _
  exact ⟨b, off, hA, hb, by simpa using hc 0 _ (by omega) rfl⟩
theorem own_ty_ne {α β : Type} {f : α → List Value} {f' : β → List Value} {s s' b b' : Nat} {e e' : TypeId} {W : World} {v v' : Value} {l : List α} {l' : List β} (h1 : Own f s e W b v l) (h2 : Own f' s' e' W b' v' l') (hne : e ≠ e') :
    ∀ k, v.ownBlock = some k → v'.ownBlock = some k → False := by
  intro k a b
  rcases h2.2 with ⟨rfl, _⟩ | ⟨g, cap, cur, rfl, _, hg, _⟩
  · cases b
  · injection b with b
    subst b
    exact h1.ne_blk (t := e') (cs := cur) hg hne a
def updB (R : Nat → Bool) (i : Nat) : Nat → Bool := fun x => if x = i then true else R x
theorem map_updB (n i : Nat) (R : Nat → Bool) : ((List.range n).map R).set i true = (List.range n).map (updB R i) := by
  refine List.ext_getElem (by simp) fun j h1 h2 => ?_
  simp only [List.getElem_map, List.getElem_range]
  by_cases e : i = j
  · subst e
    rw [List.getElem_set_self]
    simp [updB]
  · rw [List.getElem_set_ne e]
    simp only [List.getElem_map, List.getElem_range, updB]
    rw [if_neg (Ne.symm e)]
/-- What the row of v knows in round k, at row i, entry m. -/
structure RchP (n : Nat) (F : Nat → Nat → Int) (v k i m : Nat) (R : Nat → Bool) : Prop where
  up : ∀ x, x < n → R x = true → itF n F n x v ≠ bot
  self : R v = true
  low : ∀ x, x < n → itF n F k x v ≠ bot → R x = true
  rows : ∀ x y, x < i → y < n → F x y ≠ bot → itF n F k y v ≠ bot → R x = true
  row : ∀ y, y < m → F i y ≠ bot → itF n F k y v ≠ bot → R i = true
theorem RchP.start {n : Nat} {F : Nat → Nat → Int} {v : Nat} (hs : Sol n F (itF n F n)) (hv : v < n) : RchP n F v 0 0 0 (updB (fun _ => false) v) := by
  refine ⟨fun x hx h => ?_, by simp [updB], fun x hx h => ?_, fun x y hx => absurd hx (by omega), fun y hy => absurd hy (by omega)⟩
  · unfold updB at h
    split at h
    · rename_i e
      subst e
      exact nonneg_ne (hs.1 _ hv)
    · cases h
  · by_cases e : x = v
    · subst e; simp [updB]
    · exact absurd (if_neg e) h
theorem RchP.step {n : Nat} {F : Nat → Nat → Int} {v k i m : Nat} {R : Nat → Bool} (h : RchP n F v k i m R) (hs : Sol n F (itF n F n)) (hv : v < n) (hi : i < n) (hm : m < n) (h1 : R m = true) (h2 : F i m ≠ bot) : RchP n F v k i (m + 1) (updB R i) := by
  have mono : ∀ x, R x = true → updB R i x = true := fun x hx => by unfold updB; split; rfl; exact hx
  refine ⟨fun x hx hr => ?_, mono _ h.self, fun x hx hr => mono _ (h.low x hx hr), fun x y hx hy e1 e2 => mono _ (h.rows x y hx hy e1 e2), fun y hy e1 e2 => by simp [updB]⟩
  unfold updB at hr
  split at hr
  · rename_i e
    subst e
    exact (hs.2 x m v hi hm hv h2 (h.up m hm h1)).1
  · exact h.up x hx hr
theorem RchP.skip {n : Nat} {F : Nat → Nat → Int} {v k i m : Nat} {R : Nat → Bool} (h : RchP n F v k i m R) (hm : m < n) (h1 : R m = false ∨ F i m = bot) : RchP n F v k i (m + 1) R := by
  refine ⟨h.up, h.self, h.low, h.rows, fun y hy e1 e2 => ?_⟩
  rcases Nat.lt_or_ge y m with h3 | h3
  · exact h.row y h3 e1 e2
  · obtain rfl : y = m := by omega
    rcases h1 with h1 | h1
    · rw [h.low y hm e2] at h1; cases h1
    · exact absurd h1 e1
theorem RchP.next {n : Nat} {F : Nat → Nat → Int} {v k i : Nat} {R : Nat → Bool} (h : RchP n F v k i n R) : RchP n F v k (i + 1) 0 R := by
  refine ⟨h.up, h.self, h.low, fun x y hx hy e1 e2 => ?_, fun y hy => absurd hy (by omega)⟩
  rcases Nat.lt_or_ge x i with h3 | h3
  · exact h.rows x y h3 hy e1 e2
  · obtain rfl : x = i := by omega
    exact h.row y hy e1 e2
theorem RchP.round {n : Nat} {F : Nat → Nat → Int} {v k : Nat} {R : Nat → Bool} (h : RchP n F v k n 0 R) : RchP n F v (k + 1) 0 0 R := by
  refine ⟨h.up, h.self, fun x hx hr => ?_, fun x y hx => absurd hx (by omega), fun y hy => absurd hy (by omega)⟩
  have hr' : max (unitF x v) (mulF n F (itF n F k) x v) ≠ bot := hr
  by_cases e : x = v
  · subst e; exact h.self
  · have hu : unitF x v = bot := if_neg e
    rw [hu] at hr'
    have hne : mulF n F (itF n F k) x v ≠ bot := by intro e2; rw [e2] at hr'; exact hr' (Int.max_self _)
    rcases sumT_mem n (fun q => tms (F x q) (itF n F k q v)) with e2 | ⟨q, hq, e2⟩
    · exact absurd e2 hne
    · have e3 : tms (F x q) (itF n F k q v) ≠ bot := by rw [← e2]; exact hne
      obtain ⟨f1, f2, _⟩ := tms_ne e3
      exact h.rows x q hx hq f1 f2
theorem RchP.done {n : Nat} {F : Nat → Nat → Int} {v : Nat} {R : Nat → Bool} (h : RchP n F v n 0 0 R) (x : Nat) (hx : x < n) : R x = true ↔ itF n F n x v ≠ bot := ⟨h.up x hx, h.low x hx⟩
/-- The rows of the table so far. -/
def RchT (n : Nat) (F : Nat → Nat → Int) (w : World) (base : Nat) (rs : List Ref) : Prop := ∀ v (h : v < rs.length), ∃ R : Nat → Bool, Own boolCell 1 4 w base rs[v].val ((List.range n).map R) ∧ ∀ x, x < n → (R x = true ↔ itF n F n x v ≠ bot)
theorem RchT.now {n : Nat} {F : Nat → Nat → Int} {w w' : World} {base : Nat} {rs : List Ref} (h : RchT n F w base rs) (hb : Below w.heap.size w w') : RchT n F w' base rs := fun v hv => by
  obtain ⟨R, h1, h2⟩ := h v hv
  exact ⟨R, h1.now hb, h2⟩
theorem info_bool : (Try.prog.info? 4).map (fun i => (i.zero, i.size, i.bytes)) = some (some (.bool false), 1, 1) := by kernel_rfl
theorem info_refB : (Try.prog.info? 121).map (fun i => (i.zero, i.size, i.bytes)) = some (some (.slice none 0 0), 1, 24) := by kernel_rfl
theorem RchT.put {n : Nat} {F : Nat → Nat → Int} {w w' : World} {base : Nat} {rs : List Ref} {u : Value} {r : Ref} {R : Nat → Bool} (h : RchT n F w base rs) (hO : Own Ref.cells 1 121 w base u rs) (hG : w.grownBy w' u.ownBlock)
    (hr : Own boolCell 1 4 w base r.val ((List.range n).map R)) (hR : ∀ x, x < n → (R x = true ↔ itF n F n x rs.length ≠ bot)) : RchT n F w' base (rs ++ [r]) := fun v hv => by
  by_cases hlt : v < rs.length
  · obtain ⟨R', h1, h2⟩ := h v hlt
    rw [List.getElem_append_left hlt]
    exact ⟨R', own_kept h1 hG (own_ty_ne h1 hO (by decide)), h2⟩
  · obtain rfl : v = rs.length := by simp at hv; omega
    have e : (rs ++ [r])[rs.length] = r := by simp
    rw [e]
    exact ⟨R, own_kept hr hG (own_ty_ne hr hO (by decide)), hR⟩
set_option maxHeartbeats 16000000 in
set_option maxRecDepth 100000 in
theorem spec_l05Reach (u : Value) (n : Nat) (F : Nat → Nat → Int) (w : World) (h0 : LstM w w.heap.size u (matF n F n)) (hn1 : 1 ≤ n) (hn2 : n ≤ 1000) (hs : Hid (Sol n F (itF n F n))) :
    Calls Try.prog 114 #[u] w fun e w' => ∃ x rs, e = .returned x ∧ rs.length = n ∧ Own Ref.cells 1 121 w' w.heap.size x rs ∧ Hid (RchT n F w' w.heap.size rs) ∧ Below w.heap.size w w' := by
  obtain ⟨b1, o1, c1, _, _, _, rfl, _, _, _, _⟩ := mat_at h0 0 0 (by omega) (by omega)
  have hmk2 := run_make_lst (P := Try.prog) boolCell 1 boolCell_len (by omega) false 121 4 _ 1 Try.underlying121 info_bool rfl .i64 .i64 n (by omega) (by omega)
  have hm3 := fun w => (hmk2 w).1
  have hm4 := Lib.hid (fun w base h => (hmk2 w).2 base h)
  clear hmk2
  go_enter Try.func114, Try.ntmps114
  go_wp2
  have hA0 : Below w.heap.size w (w.alloc (.cells #[] 121)) := (Below.refl _ _).alloc (Nat.le_refl _) _
  go_loopw [4, 5, 6, 7, 8, 9] (fun ov vv _ _ _ _ wr => ∃ (v : Nat) (OA : Option Addr) (oc : Nat) (rs : List Ref), v ≤ n ∧ vv = .int .i64 v ∧ ov = .slice OA v oc ∧ rs.length = v ∧ Own Ref.cells 1 121 wr w.heap.size (.slice OA v oc) rs ∧ Hid (RchT n F wr w.heap.size rs) ∧ Below w.heap.size w wr) (fun _ vv _ _ _ _ _ => n - (intOf vv).toNat)
  case atStart => exact ⟨0, _, 0, [], Nat.zero_le _, rfl, rfl, rfl, own_new0 Ref.cells 1 w _ _ (Nat.le_refl _), fun v hv => absurd hv (by simp), hA0⟩
  case round =>
    clear hA0
    obtain ⟨v, OA, oc, rs, hv, rfl, rfl, hrl, hO, hT, hB⟩ := hrel
    obtain ⟨wo, rfl⟩ : ∃ wo : World, wo = wr := ⟨_, rfl⟩
    by_cases hlt : v < n
    · have hOr := hm4.out wo wo.heap.size (Nat.le_refl _)
      have hz : List.replicate n false = (List.range n).map (fun _ => false) := by simp [List.map_const']
      rw [hz, Nat.mul_one] at hOr
      have hlv : v < ((List.range n).map (fun _ => false)).length := by simpa using hlt
      have hOr2 := hOr.put boolCell_len v 0 hlv (by omega) true (.bool true) rfl v (by omega)
      rw [map_updB] at hOr2
      have hBm : Below wo.heap.size wo ((wo.alloc (.cells (madeCells (boolCell false).toArray n) 4)).setCell ⟨wo.heap.size, v, none⟩ (.bool true)) := ((Below.refl _ _).alloc (Nat.le_refl _) _).setCell (p := ⟨wo.heap.size, v, none⟩) (Nat.le_refl _) _
      obtain ⟨_, hbl, hfz, hcz⟩ := own_bools_at hOr v hlv
      have hNF : ((wo.alloc (.cells (madeCells (boolCell false).toArray n) 4)).setCell ⟨wo.heap.size, v, none⟩ (.bool true)) = wo.alloc (.cells ((madeCells (boolCell false).toArray n).setIfInBounds v (.bool true)) 4) := World.setCell_alloc_at _ _ _ _ _ rfl
      rw [hNF] at hOr2 hBm
      clear hNF
      have hOH := Lib.hid hOr2
      have hBH := Lib.hid hBm
      have hP0 := Lib.hid (RchP.start hs.out hlt)
      have hltI : (v : Int) < (n : Int) := by omega
      have i1 : (0 : Int) ≤ (v : Int) := by omega
      clear hOr2 hBm
      go_wp2
      clear hfz hcz hbl hOr hz hlv
      go_loopw [7, 8, 9] (fun kv _ _ wr => ∃ (k : Nat) (R : Nat → Bool), k ≤ n ∧ kv = .int .i64 k ∧ Own boolCell 1 4 wr wo.heap.size (.slice (some ⟨wo.heap.size, 0, none⟩) n n) ((List.range n).map R) ∧ Hid (RchP n F v k 0 0 R) ∧ Below wo.heap.size wo wr) (fun kv _ _ _ => n - (intOf kv).toNat)
      case atStart => exact ⟨0, _, Nat.zero_le _, rfl, hOH.out, hP0, hBH.out⟩
      case round =>
        clear hOH hP0 hBH
        obtain ⟨k, R, hk, rfl, hOr, hP, hBr⟩ := hrel
        by_cases hlt2 : k < n
        · have hltI2 : (k : Int) < (n : Int) := by omega
          go_wp2
          obtain ⟨wp, rfl⟩ : ∃ wp : World, wp = wr := ⟨_, rfl⟩
          go_loopw [8, 9] (fun iv _ wr => ∃ (i : Nat) (R : Nat → Bool), i ≤ n ∧ iv = .int .i64 i ∧ Own boolCell 1 4 wr wo.heap.size (.slice (some ⟨wo.heap.size, 0, none⟩) n n) ((List.range n).map R) ∧ Hid (RchP n F v k i 0 R) ∧ Below wo.heap.size wo wr) (fun iv _ _ => n - (intOf iv).toNat)
          case atStart => exact ⟨0, R, Nat.zero_le _, rfl, hOr, hP, hBr⟩
          case round =>
            clear hOr hP hBr
            obtain ⟨i, R, hi, rfl, hOr, hP, hBr⟩ := hrel
            by_cases hlt3 : i < n
            · have hltI3 : (i : Int) < (n : Int) := by omega
              have i3 : (0 : Int) ≤ (i : Int) := by omega
              go_wp2
              obtain ⟨wp2, rfl⟩ : ∃ wp2 : World, wp2 = wr := ⟨_, rfl⟩
              go_loopw [9] (fun mv wr => ∃ (m : Nat) (R : Nat → Bool), m ≤ n ∧ mv = .int .i64 m ∧ Own boolCell 1 4 wr wo.heap.size (.slice (some ⟨wo.heap.size, 0, none⟩) n n) ((List.range n).map R) ∧ Hid (RchP n F v k i m R) ∧ Below wo.heap.size wo wr) (fun mv _ => n - (intOf mv).toNat)
              case atStart => exact ⟨0, R, Nat.zero_le _, rfl, hOr, hP, hBr⟩
              case round =>
                clear hOr hP hBr
                obtain ⟨m, R, hm, rfl, hOr, hP, hBr⟩ := hrel
                by_cases hlt4 : m < n
                · have hltI4 : (m : Int) < (n : Int) := by omega
                  have i5 : (0 : Int) ≤ (m : Int) := by omega
                  obtain ⟨_, hbl, hfz, hcm⟩ := own_bools_at hOr m (by simpa using hlt4)
                  obtain ⟨_, _, _, hci⟩ := own_bools_at hOr i (by simpa using hlt3)
                  rw [List.getElem_map, List.getElem_range] at hcm hci
                  obtain ⟨_, _, _, r2, p2, c2, hu, _, y1, _, y2⟩ := mat_at ((h0.now hB).now hBr) i m hlt3 hlt4
                  cases hu
                  obtain ⟨fv, hfv⟩ : ∃ fv, F i m = fv := ⟨_, rfl⟩
                  rw [hfv] at y2
                  obtain ⟨ri, hri⟩ : ∃ ri, R i = ri := ⟨_, rfl⟩
                  rw [hri] at hci
                  clear hri
                  cases hrm : R m
                  · rw [hrm] at hcm
                    have hP' := Lib.hid (hP.out.skip hlt4 (.inl hrm))
                    clear hrm hfv
                    go_wp2
                    go_roundw
                    case rel => exact ⟨m + 1, R, hlt4, by go_num, hOr, hP', hBr⟩
                    case measure => simp [intOf]; omega
                  · rw [hrm] at hcm
                    by_cases hbt : fv = bot
                    · have hP' := Lib.hid (hP.out.skip hlt4 (.inr (hfv.trans hbt)))
                      have q1 : (fv != -1000000000000000) = false := by rw [hbt]; rfl
                      clear hrm hfv hbt
                      go_wp2
                      go_roundw
                      case rel => exact ⟨m + 1, R, hlt4, by go_num, hOr, hP', hBr⟩
                      case measure => simp [intOf]; omega
                    · have hP' := Lib.hid (hP.out.step hs.out hlt hlt3 hlt4 hrm (by rw [hfv]; exact hbt))
                      have q1 : (fv != -1000000000000000) = true := by rw [bne_iff_ne]; exact hbt
                      have hOn := hOr.put boolCell_len i 0 (by simpa using hlt3) (by omega) true (.bool true) rfl i (by omega)
                      rw [map_updB] at hOn
                      have hOnH := Lib.hid hOn
                      have hBn := Lib.hid (hBr.setCell (p := ⟨wo.heap.size, i, none⟩) (Nat.le_refl _) (.bool true))
                      clear hrm hfv hbt hOn
                      go_wp2
                      go_roundw
                      case rel => exact ⟨m + 1, _, hlt4, by go_num, hOnH.out, hP', hBn.out⟩
                      case measure => simp [intOf]; omega
                · obtain rfl : m = n := by omega
                  have hnl : ¬ (m : Int) < (m : Int) := by omega
                  have hP' := Lib.hid hP.out.next
                  clear hlt4
                  go_wp2
                  go_roundw
                  case rel => exact ⟨i + 1, R, hlt3, by go_num, hOr, hP', hBr⟩
                  case measure => simp [intOf]; omega
            · obtain rfl : i = n := by omega
              have hnl : ¬ (i : Int) < (i : Int) := by omega
              have hP' := Lib.hid hP.out.round
              clear hlt3
              go_wp2
              go_roundw
              case rel => exact ⟨k + 1, R, hlt2, by go_num, hOr, hP', hBr⟩
              case measure => simp [intOf]; omega
        · obtain rfl : k = n := by omega
          have hnl : ¬ (k : Int) < (k : Int) := by omega
          have hZ : Below wr.heap.size wr (wr.alloc (.cells #[.slice (some ⟨wo.heap.size, 0, none⟩) k k] 121)) := (Below.refl _ _).alloc (Nat.le_refl _) _
          have hOz := Lib.hid ((hO.now hBr).now hZ)
          have hTz := Lib.hid ((hT.out.now hBr).now hZ)
          have hrz : Own boolCell 1 4 (wr.alloc (.cells #[.slice (some ⟨wo.heap.size, 0, none⟩) k k] 121)) w.heap.size (Ref.val ⟨some ⟨wo.heap.size, 0, none⟩, k, k⟩) ((List.range k).map R) := (hOr.rebase hB.size).now hZ
          have hRz := Lib.hid (hP.out.done)
          have hBz := (hB.trans (hBr.mono hB.size)).trans (hZ.mono (Nat.le_trans hB.size hBr.size))
          have hlen : rs.length + [(⟨some ⟨wo.heap.size, 0, none⟩, k, k⟩ : Ref)].length ≤ 1099511627776 := by simp; omega
          have hLL : Hid ((rs ++ [(⟨some ⟨wo.heap.size, 0, none⟩, k, k⟩ : Ref)]).length = v + 1) := by show _ = _; simp; omega
          have hrzH := Lib.hid hrz
          have hBzH := Lib.hid hBz
          have hsz : w.heap.size ≤ wr.heap.size := Nat.le_trans hB.size hBr.size
          have hrlH := Lib.hid hrl
          clear hlt2 hrz hBz hOr hP hZ hrl
          go_wp2_with (at_builtin; refine wpList_append_lst rfl _ _ 118 rfl Ref.cells 1 Ref.cells_one (by omega) w.heap.size 121 _ 24 Try.underlying118 info_refB rfl _ _ rfl hOz.out _ _ _ _ [(⟨some ⟨wo.heap.size, 0, none⟩, k, k⟩ : Ref)] rfl (lst_new1 _ _ Ref.cells_len _ _ _ _ rfl _ (by simp)) hlen (by omega) (Nat.le_trans hsz (by simp)) ?_; intro v' w9 hO1 hG1 hD1; obtain ⟨V1, cv1, rfl⟩ := own_shape_n hO1 hLL.out)
          have hT9 := Lib.hid (hTz.out.put hOz.out hG1 hrzH.out (by rw [hrlH.out]; exact hRz.out))
          have hB9 := hBzH.out.grown hG1 hBzH.out.size (fun q e => (hOz.out.lt q e).1)
          clear hG1 hD1 hOz hTz hrzH
          go_roundw
          case rel => exact ⟨v + 1, V1, cv1, _, hlt, by go_num, rfl, hLL.out, hO1, hT9, hB9⟩
          case measure => simp [intOf]; omega
    · obtain rfl : v = n := by omega
      have hnl : ¬ (v : Int) < (v : Int) := by omega
      clear hlt
      go_wp2
      go_ret
      exact ⟨_, rfl, rs, hrl, hO, hT, hB⟩
end Go.Proofs.Ytpkkkigiiaegfaa
