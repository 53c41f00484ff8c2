/-
  Runs read from texts, the program's side.
-/
import Derived.Test.YtlppfcamlggcnaaDoorRead
import Derived.Maps.OwnOps
import Derived.Maps.OwnSet
import Derived.Maps.Views
namespace Go.Proofs.YtlppfcamlggcnaaDoor
open Go.RowKit Go.Maps
set_option linter.unusedVariables false
set_option linter.unusedSimpArgs false
/-- The map holds how often each event has fired. -/
def CntD (D : DataW Unit) (y : List Firing) : Prop := ∀ e : Int, D.atKey (.int .i64 e) (.lit (.int .i64 0)) = .lit (.int .i64 ((timesIn y e).length : Int))
theorem CntD.start : CntD (.map []) [] := fun e => rfl
theorem CntD.put {D : DataW Unit} {y : List Firing} (h : CntD D y) (hm : IsMap D) (e n t c : Int) (hc : c = ((timesIn y e).length : Int) + 1) : CntD (D.put (.int .i64 e) (.lit (.int .i64 c))) (y ++ [⟨e, n, t⟩]) := by
  intro e'
  rw [timesIn_snoc]
  by_cases he : e' = e
  · subst he
    rw [atKey_put_same hm (show WideAt.IsKeyLit (.int .i64 e') from trivial), hc]
    simp
  · rw [atKey_put_other (by intro hh; injection hh with _ hh; exact he hh), h e', if_neg (fun hh => he hh.symm)]
    simp
theorem own_map {α : Type} {f : α → List Value} {s : Nat} {e : TypeId} {w : World} {base M n : Nat} {v : Value} {l : List α} {P : Program} {K : TypeId} {R : Value → Option (DataW Unit × List MemPlace)} {D : DataW Unit} (h : Own f s e w base v l) (hM : w.ownsMap P K R M n D) : v.ownBlock ≠ some M := by
  intro hv
  obtain ⟨es, clock, hb, _⟩ := hM
  rcases h.2 with ⟨rfl, _⟩ | ⟨g, cap, cur, rfl, _, hg, _⟩
  · cases hv
  · injection hv with hv
    subst hv
    rw [hg] at hb
    injection hb with hb
    cases hb
theorem own_keptM {α : Type} {f : α → List Value} {s : Nat} {e : TypeId} {w w' : World} {base M : Nat} {v : Value} {l : List α} (h : Own f s e w base v l) (hG : w.grownBy w' (some M)) (hne : v.ownBlock ≠ some M) : Own f s e w' base v l :=
  World.ownsRow.kept h hG (.inr hne)
theorem map_below {w w' : World} {P : Program} {K : TypeId} {R : Value → Option (DataW Unit × List MemPlace)} {M n B : Nat} {D : DataW Unit} (h : w.ownsMap P K R M n D) (hB : Below B w w') (hM : M < B) : w'.ownsMap P K R M n D := by
  obtain ⟨es, clock, hb, r⟩ := h
  exact ⟨es, clock, (hB.block M hM).trans hb, r⟩
theorem cut_sizes (s : ByteArray) : (⟨(Lib.cut s.data.toList [64]).1.toArray⟩ : ByteArray).size ≤ s.size ∧ (⟨(Lib.cut s.data.toList [64]).2.1.toArray⟩ : ByteArray).size ≤ s.size := by
  rw [bsize, bsize ⟨(Lib.cut s.data.toList [64]).2.1.toArray⟩, bsize s]
  simp only [List.toList_toArray]
  unfold Lib.cut
  split
  · simp only [List.length_take, List.length_drop]
    omega
  · simp
theorem keyed64 : Keyed Tryd.prog 2 := int_keyed Tryd.underlying2
theorem zero64 (w : World) : (zeroValue 2).run Tryd.prog w = .ok (.int .i64 0) w := by kernel_rfl
set_option maxHeartbeats 16000000 in
set_option maxRecDepth 100000 in
theorem impl_ReadRun (s : ByteArray) (w : World) (hs : s.size ≤ 100000000) (hE : Env w) :
    Calls Tryd.prog 24 #[.string s] w fun e w' => RetOwnB Firing.cells 3 87 w ((readF s).getD []) (readF s).isSome e w' := by
  obtain ⟨F, hF⟩ : ∃ F, readF s = F := ⟨_, rfl⟩
  rw [hF]
  have hF := Lib.hid hF
  have hmm := @run_makeMap Tryd.prog
  by_cases h0 : s.size = 0
  · obtain rfl := size_empty h0
    have hN : Hid (some [] = F) := by
      show _ = _
      rw [← hF.out]
      rfl
    clear h0
    go_enter Tryd.func24, Tryd.ntmps24
    go_wp2
    go_ret2
    exact ⟨_, by rw [← hN.out]; rfl, by rw [← hN.out]; exact Own.nil, Below.refl _ _⟩
  · have hq := ne_empty h0
    have hq2 := ne_empty2 h0
    have hrd : Hid (readL [] (splitF 32 s) = F) := by
      show _ = _
      rw [← hF.out]
      unfold readF
      rw [if_neg h0]
    have hWl := splitF_len 32 s
    have hWs := Lib.hid (split_size 32 s)
    clear h0 hF
    have hMA := World.ownsMap_made w Tryd.prog 2 (plainElem (H := Unit) Tryd.prog 2)
    have hBA : Below w.heap.size w (w.alloc (.map #[] 0)) := (Below.refl _ _).alloc (Nat.le_refl _) _
    go_enter Tryd.func24, Tryd.ntmps24
    go_wp2_with fail
    refine (strings_Split s 32 _ hs (hE.now hBA)).mono ?_
    rintro e w1 ⟨uw, rfl, hW, hB1⟩
    have hM0 := map_below hMA hB1 (by simp)
    have hB0 : Below w.heap.size w w1 := hBA.trans (hB1.mono (by simp))
    replace hW := hW.rebase (base' := w.heap.size) (by simp)
    generalize splitF 32 s = W at *
    clear hB1 hq hq2 hMA hBA hmm
    obtain ⟨WA, wc, rfl⟩ := hW.shape
    go_wp2
    go_loopw [4, 7, 8, 9, 10, 11, 12, 13, 14, 21] (fun u _ _ _ _ _ _ _ _ i wr => ∃ (k : Nat) (y : List Firing) (D : DataW Unit), k ≤ W.length ∧ i = .int .i64 k ∧ Hid (readL [] (W.take k) = some y) ∧ Hid (y.length = k) ∧ k ≤ 500 ∧ Own Firing.cells 3 87 wr w.heap.size u y ∧ Own strCell 1 9 wr w.heap.size (.slice WA W.length wc) W ∧ wr.ownsMap Tryd.prog 2 (plainElem Tryd.prog 2) w.heap.size k D ∧ Hid (CntD D y) ∧ Below w.heap.size w wr) (fun _ _ _ _ _ _ _ _ _ i _ => W.length - (intOf i).toNat)
    case atStart => exact ⟨0, [], .map [], Nat.zero_le _, rfl, rfl, rfl, by omega, Own.nil, hW, hM0, CntD.start, hB0⟩
    case round =>
      clear hM0 hW hB0
      obtain ⟨k, y, D, hk, rfl, hR, hy, h5, hO, hW, hM, hD, hB⟩ := hrel
      obtain ⟨OA, oc, rfl⟩ := own_shape_n hO hy.out
      have hws := hB.size
      by_cases hlt : k < W.length
      · obtain ⟨b, off, rfl, hb, c0⟩ := strs_at hW.lst k hlt
        have hnx := readL_next hlt hR.out
        have hsz : W[k].size ≤ 100000000 := Nat.le_trans (hWs.out _ (List.getElem_mem hlt)) hs
        obtain ⟨x, hx⟩ : ∃ x, W[k] = x := ⟨_, rfl⟩
        rw [hx] at c0 hsz hnx
        have hwc := word_cut x
        have hbd := Lib.hid (fun h => (readL_bad (W := W) (k := k + 1) h).symm.trans hrd.out)
        have hcs := cut_sizes x
        clear hx
        go_wp2_with fail
        refine (strings_Cut x 64 _ hsz (hE.now hB)).mono ?_
        rintro e w2 ⟨⟨cb, rfl⟩, hB2⟩
        generalize (⟨(Lib.cut x.data.toList [64]).1.toArray⟩ : ByteArray) = p1 at *
        generalize (⟨(Lib.cut x.data.toList [64]).2.1.toArray⟩ : ByteArray) = p2 at *
        go_wp2_with fail
        refine (impl_readNumber p1 _ (by omega) (hE.now (hB.trans (hB2.mono hws)))).mono ?_
        rintro e w3 ⟨rfl, hB3⟩
        replace hB3 := hB2.trans (hB3.mono hB2.size)
        go_wp2_with fail
        refine (impl_readNumber p2 _ (by omega) (hE.now (hB.trans (hB3.mono hws)))).mono ?_
        rintro e w4 ⟨rfl, hB4⟩
        replace hB4 := hB3.trans (hB4.mono hB3.size)
        replace hO := hO.now hB4
        replace hW := hW.now hB4
        replace hM := map_below hM hB4 hM.lt
        replace hB := hB.trans (hB4.mono hws)
        clear hB2 hB3 c0 hws hcs
        have hws := hB.size
        obtain ⟨A1, hA1⟩ : ∃ A1, numF p1 = A1 := ⟨_, rfl⟩
        obtain ⟨A2, hA2⟩ : ∃ A2, numF p2 = A2 := ⟨_, rfl⟩
        have h63a : ∀ v, A1 = some v → i64in v := fun v hv => ((numF_iff p1 v).1 (hA1.trans hv)).1
        rw [hA1, hA2] at hwc
        rw [hA1, hA2]
        rw [← hwc] at hnx
        have hnx := Lib.hid hnx
        clear hwc hA1 hA2
        cases A1 with
        | none =>
          have hN : Hid (none = F) := hbd.out (by rw [hnx.out]; rfl)
          go_wp2
          go_ret2
          exact ⟨_, by rw [← hN.out]; rfl, by rw [← hN.out]; exact Own.nil, hB⟩
        | some a =>
          cases A2 with
          | none =>
            have hN : Hid (none = F) := hbd.out (by rw [hnx.out]; rfl)
            go_wp2
            go_ret2
            exact ⟨_, by rw [← hN.out]; rfl, by rw [← hN.out]; exact Own.nil, hB⟩
          | some b =>
            obtain ⟨b1, hb1⟩ : ∃ b1, inB a 0 1000000 = b1 := ⟨_, rfl⟩
            obtain ⟨b2, hb2⟩ : ∃ b2, inB b 0 1000000 = b2 := ⟨_, rfl⟩
            have hnx2 : Hid (readL [] (W.take (k + 1)) = match (if b1 && b2 then some (a, b) else none) with | none => none | some p => if y.length = 500 then none else some (y ++ [⟨p.1, (timesIn y p.1).length + 1, p.2⟩])) := by
              show _ = _
              rw [hnx.out, ← hb1, ← hb2]
              rfl
            have hb1H := Lib.hid hb1
            have hb2H := Lib.hid hb2
            have h63 := (h63a a rfl)
            clear hb1 hb2 hnx h63a
            simp only [Option.getD_some, Option.isSome_some]
            cases b1 with
            | false =>
              have hN : Hid (none = F) := hbd.out (by rw [hnx2.out]; rfl)
              go_wp2_with (go_at_call 58; refine (impl_within _ _ _ _).mono ?_; rintro e w9 ⟨rfl, rfl⟩; rw [hb1H.out])
              go_ret2
              exact ⟨_, by rw [← hN.out]; rfl, by rw [← hN.out]; exact Own.nil, hB⟩
            | true =>
              cases b2 with
              | false =>
                have hN : Hid (none = F) := hbd.out (by rw [hnx2.out]; rfl)
                go_wp2_with (go_at_call 58; refine (impl_within _ _ _ _).mono ?_; rintro e w9 ⟨rfl, rfl⟩; (first | rw [hb1H.out] | rw [hb2H.out]))
                go_ret2
                exact ⟨_, by rw [← hN.out]; rfl, by rw [← hN.out]; exact Own.nil, hB⟩
              | true =>
                by_cases hk5 : k = 500
                · have hN : Hid (none = F) := hbd.out (by rw [hnx2.out]; simp [hy.out, hk5])
                  have hk5' : ((k : Int) == 500) = true := by rw [hk5]; rfl
                  clear hk5
                  go_wp2_with (go_at_call 58; refine (impl_within _ _ _ _).mono ?_; rintro e w9 ⟨rfl, rfl⟩; (first | rw [hb1H.out] | rw [hb2H.out]))
                  go_ret2
                  exact ⟨_, by rw [← hN.out]; rfl, by rw [← hN.out]; exact Own.nil, hB⟩
                · have hnx3 : Hid (readL [] (W.take (k + 1)) = some (y ++ [⟨a, (timesIn y a).length + 1, b⟩])) := by
                    show _ = _
                    rw [hnx2.out]
                    have : ¬ y.length = 500 := by rw [hy.out]; exact hk5
                    simp [this]
                  have hk5' : ((k : Int) == 500) = false := by simp; omega
                  have h5' : k + 1 ≤ 500 := by omega
                  have hcn : (timesIn y a).length ≤ 500 := by have := timesIn_len y a; rw [hy.out] at this; omega
                  have hkey : keyOf Tryd.prog 2 (.int .i64 a) = some (.int .i64 a) := keyOf_int_mk Tryd.underlying2 (WalkArith.wf_i64 ⟨h63.1, h63.2⟩)
                  have hIM := hM.isMap
                  obtain ⟨cn, hcnE⟩ : ∃ cn : Int, ((timesIn y a).length : Int) = cn := ⟨_, rfl⟩
                  have hat1 : Hid (D.atKey (.int .i64 a) (.lit (.int .i64 0)) = .lit (.int .i64 cn)) := by
                    show _ = _
                    rw [hD.out a, hcnE]
                  have hcw : IntKind.i64.wrap (cn + 1) = cn + 1 := IntWalk.i64_in _ (by omega)
                  have hwf : (Lit.int .i64 (cn + 1)).wf = true := WalkArith.wf_i64 (by omega)
                  have hD2 : Hid (CntD (D.put (.int .i64 a) (.lit (.int .i64 (cn + 1)))) (y ++ [⟨a, cn + 1, b⟩])) := hD.out.put hIM a _ b _ (by omega)
                  have hat2 : Hid ((D.put (.int .i64 a) (.lit (.int .i64 (cn + 1)))).atKey (.int .i64 a) (.lit (.int .i64 0)) = .lit (.int .i64 (cn + 1))) := atKey_put_same hIM (show WideAt.IsKeyLit (.int .i64 a) from trivial) _ _
                  rw [hcnE] at hnx3
                  have hwfH := Lib.hid hwf
                  have hkeyH := Lib.hid hkey
                  have hOm := Lib.hid (own_map hO hM)
                  have hWm := Lib.hid (own_map hW hM)
                  clear hk5 hbd hnx2 hcn hcnE hwf hkey
                  go_wp2_with (first | (go_at_call 58; refine (impl_within _ _ _ _).mono ?_; rintro e w9 ⟨rfl, rfl⟩; (first | rw [hb1H.out] | rw [hb2H.out])) | (at_lookup; refine wpList_lookup_own_int _ rfl _ _ 89 rfl 2 2 .i64 keyed64 Tryd.underlying89 Tryd.underlying2 (zero64 _) w.heap.size k D rfl hM _ _ rfl hkeyH.out ?_; intro c hat hwc; obtain rfl : cn = c := (by have := hat1.out.symm.trans hat; injection this with this; injection this with _ this); clear hat hwc) | (at_lookup; refine wpList_lookup_own_int _ rfl _ _ 89 rfl 2 2 .i64 keyed64 Tryd.underlying89 Tryd.underlying2 (zero64 _) w.heap.size (k + 1) (D.put (.int .i64 a) (.lit (.int .i64 (cn + 1)))) rfl hM1 _ _ rfl hkeyH.out ?_; intro c hat hwc; obtain rfl : cn + 1 = c := (by have := hat2.out.symm.trans hat; injection this with this; injection this with _ this); clear hat hwc) | (at_mapUpdate; refine wpList_mapUpdate_own _ rfl _ _ _ 89 rfl 2 2 keyed64 Tryd.underlying89 _ w.heap.size k D rfl hM (by unfold maxLen; omega) _ _ _ rfl rfl hkeyH.out _ [] (plainElem_int Tryd.underlying2 hwfH.out) ?_; intro w5 hM1 hG1; have hO5 := own_keptM hO hG1 hOm.out; have hW5 := own_keptM hW hG1 hWm.out; have hB5 := hB.grown hG1 hws (fun j hj => by cases hj; exact Nat.le_refl _)) | (at_builtin; refine wpList_append_lst rfl _ _ 38 rfl Firing.cells 3 Firing.cells_one (by omega) w.heap.size 87 _ 24 Tryd.underlying38 info_fir3 rfl _ _ rfl (hO5.alloc _) _ _ _ _ [⟨a, cn + 1, b⟩] rfl (lst_new1 Firing.cells 3 Firing.cells_len _ _ _ _ rfl _ (by simp)) (by rw [hy.out]; simp; omega) (by omega) (Nat.le_trans hB5.size (by simp)) ?_; intro v9 w9 hO9 hG9 hD9))
                  have qO := hO5.alloc (.cells #[.int .i64 a, .int .i64 (cn + 1), .int .i64 b] 87)
                  have qW := hW5.alloc (.cells #[.int .i64 a, .int .i64 (cn + 1), .int .i64 b] 87)
                  have qM := hM1.alloc (.cells #[.int .i64 a, .int .i64 (cn + 1), .int .i64 b] 87)
                  have qB := hB5.alloc hB5.size (.cells #[.int .i64 a, .int .i64 (cn + 1), .int .i64 b] 87)
                  replace hG9 : (w5.alloc (.cells #[.int .i64 a, .int .i64 (cn + 1), .int .i64 b] 87)).grownBy w9 (Value.slice OA k oc).ownBlock := hG9
                  have hB9 := below_app qB (Nat.le_trans hB5.size (by simp)) hG9 qO (Nat.le_refl _)
                  have hW9 := own_kept qW hG9 (own_apart qW qO (by decide))
                  have hM9 := qM.kept hG9 (fun e => own_map qO qM e.symm)
                  have hy9 : Hid ((y ++ [(⟨a, cn + 1, b⟩ : Firing)]).length = k + 1) := by show _ = _; rw [List.length_append, hy.out]; rfl
                  go_roundw
                  case rel => exact ⟨k + 1, _, _, hlt, by go_num, hnx3, hy9, h5', hO9, hW9, hM9, hD2, hB9⟩
                  case measure => simp [intOf] <;> omega
      · obtain rfl : k = W.length := by omega
        have hfin : Hid (some y = F) := by
          show _ = _
          have := hR.out
          rw [List.take_length] at this
          rw [← hrd.out, this]
        clear hR
        go_wp2
        go_ret2
        exact ⟨_, by rw [← hfin.out]; rfl, by rw [← hfin.out]; exact hO, hB⟩
end Go.Proofs.YtlppfcamlggcnaaDoor
