/-
  The walks of TokenBound, the program's and the reference's.
-/
import Derived.Test.YtcoomogabicfnaaStarD
import Derived.Test.YtcoomogabicfnaaRooms
import Derived.Test.YtcoomogabicfnaaStarT
namespace Go.Proofs.Ytcoomogabicfnaa
open Go.RowKit
set_option linter.unusedVariables false
set_option linter.unusedSimpArgs false
def sumN : Nat → (Nat → Nat) → Nat
  | 0, _ => 0
  | n + 1, f => sumN n f + f n
theorem sumN_set (n : Nat) (f g : Nat → Nat) (d : Nat) (hd : d < n) (h : ∀ i, i ≠ d → g i = f i) : sumN n g + f d = sumN n f + g d := by
  induction n with
  | zero => omega
  | succ n ih =>
    simp only [sumN]
    by_cases e : d = n
    · subst e
      have : sumN d g = sumN d f := by
        clear ih hd
        have key : ∀ m, m ≤ d → sumN m g = sumN m f := by
          intro m
          induction m with
          | zero => intro _; rfl
          | succ m ihm => intro hm; simp only [sumN]; rw [ihm (by omega), h m (by omega)]
        exact key d (Nat.le_refl _)
      omega
    · have h1 := ih (by omega)
      have h2 := h n (fun e' => e e'.symm)
      omega
theorem sumN_le (n c : Nat) (f : Nat → Nat) (h : ∀ i, i < n → f i ≤ c) : sumN n f ≤ n * c := by
  induction n with
  | zero => simp [sumN]
  | succ n ih =>
    simp only [sumN, Nat.succ_mul]
    have := ih (fun i hi => h i (by omega))
    have := h n (by omega)
    omega
theorem sumN_congr (n : Nat) (f g : Nat → Nat) (h : ∀ i, i < n → f i = g i) : sumN n f = sumN n g := by
  induction n with
  | zero => rfl
  | succ n ih => simp only [sumN]; rw [ih (fun i hi => h i (by omega)), h n (by omega)]
def updD (D : Nat → Int) (d : Nat) (x : Int) : Nat → Int := fun i => if i = d then x else D i
def wants (D : Nat → Int) (p : Place) : Bool := decide (0 ≤ D p.src.toNat) && (decide (D p.dst.toNat < 0) || decide (D p.src.toNat + p.tokens < D p.dst.toNat))
def relaxD (D : Nat → Int) (p : Place) : Nat → Int := if wants D p then updD D p.dst.toNat (D p.src.toNat + p.tokens) else D
def cntD (n : Nat) (D : Nat → Int) : Nat := sumN n fun i => if D i < 0 then 0 else 1
def muD (n : Nat) (D : Nat → Int) : Nat := sumN n fun i => if D i < 0 then 100 else (D i).toNat
theorem cntD_le (n : Nat) (D : Nat → Int) : cntD n D ≤ n := by
  have := sumN_le n 1 (fun i => if D i < 0 then 0 else 1) (fun i _ => by split <;> omega)
  unfold cntD
  omega
def tokF (gp : List Place) : Nat → Nat → Int := wgtF (fun p => - p.tokens) gp
theorem wgtF_from (wt : Place → Int) (gp : List Place) : ∀ k, k ≤ gp.length → ∀ i j, wgtF wt (gp.take k) i j = bot ∨ ∃ p ∈ gp, p.dst.toNat = i ∧ p.src.toNat = j ∧ wgtF wt (gp.take k) i j = wt p := by
  intro k
  induction k with
  | zero => intro _ i j; exact .inl rfl
  | succ k ih =>
    intro hk i j
    rw [wgtF_succ wt gp k (by omega)]
    have h1 := ih (by omega)
    unfold updF
    split
    · rename_i hij
      by_cases hle : wgtF wt (gp.take k) gp[k].dst.toNat gp[k].src.toNat ≤ wt gp[k]
      · exact .inr ⟨gp[k], List.getElem_mem _, hij.1.symm, hij.2.symm, by omega⟩
      · rcases h1 gp[k].dst.toNat gp[k].src.toNat with e | ⟨p, hp, e1, e2, e4⟩
        · exact .inl (by omega)
        · exact .inr ⟨p, hp, by omega, by omega, by omega⟩
    · exact h1 i j
theorem wgtF_up (wt : Place → Int) (gp : List Place) (p : Place) (hp : p ∈ gp) : wt p ≤ wgtF wt gp p.dst.toNat p.src.toNat := by
  obtain ⟨q, hq, rfl⟩ := List.mem_iff_getElem.1 hp
  have key : ∀ k, k ≤ gp.length → q < k → wt gp[q] ≤ wgtF wt (gp.take k) gp[q].dst.toNat gp[q].src.toNat := by
    intro k
    induction k with
    | zero => intro _ h; omega
    | succ k ih =>
      intro hk hqk
      rw [wgtF_succ wt gp k (by omega)]
      unfold updF
      by_cases e : q = k
      · subst e
        rw [if_pos ⟨rfl, rfl⟩]
        omega
      · have := ih (by omega) (by omega)
        split
        · rename_i h
          rw [h.1, h.2] at this
          omega
        · exact this
  have := key gp.length (Nat.le_refl _) hq
  rwa [List.take_length] at this
/-- What the distances are known to be on the way. -/
structure DOk (n f : Nat) (gp : List Place) (D : Nat → Int) : Prop where
  low : ∀ i, i < n → -1 ≤ D i
  high : ∀ i, i < n → D i ≤ 5 * (cntD n D : Int)
  start : D f = 0
  att : ∀ y : Nat → Option Int, SubO n (tokF gp) y → (∃ c, y f = some c ∧ 0 ≤ c) → ∀ i, i < n → 0 ≤ D i → ∃ b, y i = some b ∧ -(D i) ≤ b
theorem DOk.small {n f : Nat} {gp : List Place} {D : Nat → Int} (h : DOk n f gp D) (hn : n ≤ 10) (i : Nat) (hi : i < n) : -1 ≤ D i ∧ D i ≤ 50 := by
  have h1 := h.low i hi
  have h2 := h.high i hi
  have h3 := cntD_le n D
  omega
theorem DOk.first {n f : Nat} {gp : List Place} (hf : f < n) : DOk n f gp (updD (fun _ => -1) f 0) := by
  refine ⟨fun i _ => ?_, fun i _ => ?_, ?_, fun y hy hc i hi h => ?_⟩
  · simp only [updD]; split <;> omega
  · simp only [updD]; split <;> omega
  · simp [updD]
  · by_cases e : i = f
    · subst e
      obtain ⟨c, hc, h0⟩ := hc
      exact ⟨c, hc, by simp [updD]; exact h0⟩
    · simp [updD, e] at h
theorem relax_ok {n f : Nat} {gp : List Place} {D : Nat → Int} (hg : okGraph n gp = true) (h : DOk n f gp D) (p : Place) (hp : p ∈ gp) (hw : wants D p = true) :
    DOk n f gp (updD D p.dst.toNat (D p.src.toNat + p.tokens)) ∧ muD n (updD D p.dst.toNat (D p.src.toNat + p.tokens)) < muD n D := by
  obtain ⟨⟨s0, s1⟩, ⟨d0, d1⟩, _, t0, t1⟩ := okGraph_place hg hp
  have hge := okGraph_ev hg
  obtain ⟨s, hs⟩ := Int.eq_ofNat_of_zero_le s0
  obtain ⟨d, hd⟩ := Int.eq_ofNat_of_zero_le d0
  have hup := wgtF_up (fun p => - p.tokens) gp p hp
  have hfin : fin 10 (wgtF (fun p => - p.tokens) gp p.dst.toNat p.src.toNat) := wgtF_fin _ (by omega) gp (fun q hq => by have := okGraph_place hg hq; omega) _ _
  unfold wants at hw
  rw [hs, hd, Int.toNat_natCast, Int.toNat_natCast] at hw hup hfin ⊢
  simp only [Bool.and_eq_true, Bool.or_eq_true, decide_eq_true_eq] at hw
  obtain ⟨hw1, hw2⟩ := hw
  have hsn : s < n := by omega
  have hdn : d < n := by omega
  obtain ⟨x, hx⟩ : ∃ x, D s + p.tokens = x := ⟨_, rfl⟩
  have hx0 : 0 ≤ x := by omega
  have hc := sumN_set n (fun i => if D i < 0 then 0 else 1) (fun i => if updD D d x i < 0 then 0 else 1) d hdn (fun i hi => by simp [updD, hi])
  have hm := sumN_set n (fun i => if D i < 0 then 100 else (D i).toNat) (fun i => if updD D d x i < 0 then 100 else (updD D d x i).toNat) d hdn (fun i hi => by simp [updD, hi])
  have hdd : updD D d x d = x := by simp [updD]
  have hcs := cntD_le n D
  have hhs := h.high s hsn
  simp only [hdd] at hc hm
  rw [if_neg (show ¬ x < 0 by omega)] at hc hm
  have hcnt : cntD n (updD D d x) = cntD n D + (if D d < 0 then 1 else 0) := by unfold cntD; split at hc <;> split <;> omega
  rw [hx]
  refine ⟨⟨fun i hi => ?_, fun i hi => ?_, ?_, fun y hy hcc i hi h0 => ?_⟩, ?_⟩
  · unfold updD; split
    · omega
    · exact h.low i hi
  · have hi2 := h.high i hi
    rw [hcnt]
    unfold updD
    split
    · rename_i e
      subst e
      split <;> omega
    · split <;> omega
  · have hst := h.start
    unfold updD; split
    · rename_i e
      rw [e] at hst
      omega
    · exact hst
  · by_cases e : i = d
    · subst e
      obtain ⟨b, hb, hle⟩ := h.att y hy hcc s hsn hw1
      have hne : tokF gp i s ≠ bot := by unfold tokF; rcases hfin with hfin | hfin <;> unfold bot at * <;> omega
      obtain ⟨b2, hb2, hle2⟩ := hy i s hdn hsn hne b hb
      refine ⟨b2, hb2, ?_⟩
      rw [hdd]
      unfold tokF at hle2
      omega
    · have h1 : updD D d x i = D i := by simp [updD, e]
      rw [h1] at h0 ⊢
      exact h.att y hy hcc i hi h0
  · unfold muD
    have := h.low d hdn
    rcases hw2 with hw2 | hw2
    · rw [if_pos hw2] at hm; omega
    · by_cases hneg : D d < 0
      · rw [if_pos hneg] at hm; omega
      · rw [if_neg hneg] at hm; omega
theorem tok_fin {ge : Int} {gp : List Place} (hg : okGraph ge gp = true) (n : Nat) : finM n 10 (tokF gp) := fun i j _ _ =>
  wgtF_fin _ (by omega) gp (fun q hq => by have := okGraph_place hg hq; omega) i j
theorem tok_it {ge : Int} {gp : List Place} {n : Nat} (hg : okGraph ge gp = true) (hn : n ≤ 10) : itOk n (tokF gp) := by
  refine itOk_of_pot (tok_fin hg n) (by omega) (by omega) hn (z := fun _ => 0) ?_
  intro i j hi hj hne
  have h := wgtF_from (fun p => - p.tokens) gp gp.length (Nat.le_refl _) i j
  rw [List.take_length] at h
  rcases h with h | ⟨p, hp, _, _, e⟩
  · exact absurd h hne
  · have := okGraph_place hg hp
    show tokF gp i j + 0 ≤ 0
    unfold tokF
    rw [e]
    omega
/-- Where nothing wants to change, the distances are the star's column. -/
theorem DOk.star {n f : Nat} {gp : List Place} {D : Nat → Int} (hg : okGraph n gp = true) (h : DOk n f gp D) (hf : f < n) (hst : ∀ p ∈ gp, wants D p = false) (i : Nat) (hi : i < n) :
    D i = if itF n (tokF gp) n i f = bot then -1 else - itF n (tokF gp) n i f := by
  have hge := okGraph_ev hg
  have hsub : SubO n (tokF gp) (fun i => if D i < 0 then none else some (-(D i))) := by
    intro i m hi hm hne a ha
    have hw := wgtF_from (fun p => - p.tokens) gp gp.length (Nat.le_refl _) i m
    rw [List.take_length] at hw
    rcases hw with hw | ⟨p, hp, e1, e2, e⟩
    · exact absurd hw hne
    · have h1 := hst p hp
      unfold wants at h1
      rw [e1, e2] at h1
      simp only at ha
      by_cases hm0 : D m < 0
      · rw [if_pos hm0] at ha; cases ha
      · rw [if_neg hm0] at ha
        injection ha with ha
        rw [decide_eq_true (show 0 ≤ D m by omega), Bool.true_and] at h1
        simp only [Bool.or_eq_false_iff, decide_eq_false_iff_not] at h1
        refine ⟨-(D i), by simp only; rw [if_neg h1.1], ?_⟩
        unfold tokF
        rw [e]
        omega
  have h3 := star_col (tok_fin hg n) (by omega) (by omega) (by omega) (tok_it hg (by omega)) hf hsub (a := 0) (by simp only [h.start]; rfl) (by omega) (fun i hi b hb y hy hc => ?_) i hi
  · unfold colO at h3
    have hl := h.low i hi
    by_cases e : itF n (tokF gp) n i f = bot
    · rw [if_pos e] at h3 ⊢
      by_cases hneg : D i < 0
      · omega
      · rw [if_neg hneg] at h3; cases h3
    · rw [if_neg e] at h3 ⊢
      by_cases hneg : D i < 0
      · rw [if_pos hneg] at h3; cases h3
      · rw [if_neg hneg] at h3
        injection h3 with h3
        omega
  · by_cases hneg : D i < 0
    · rw [if_pos hneg] at hb; cases hb
    · rw [if_neg hneg] at hb
      injection hb with hb
      obtain ⟨c, hcc, hle⟩ := h.att y hy hc i hi (by omega)
      exact ⟨c, hcc, by omega⟩
end Go.Proofs.Ytcoomogabicfnaa
namespace Go.Proofs.Ytcoomogabicfnaa
open Go.RowKit
set_option linter.unusedVariables false
set_option linter.unusedSimpArgs false
theorem map_updD (n d : Nat) (D : Nat → Int) (x : Int) : ((List.range n).map D).set d x = (List.range n).map (updD D d x) := by
  refine List.ext_getElem (by simp) fun i h1 h2 => ?_
  by_cases e : d = i
  · subst e; simp [updD]
  · rw [List.getElem_set_ne e]
    simp [updD, Ne.symm e]
def cellI (o : Option Value) : Int := match o with | some (.int _ x) => x | _ => 0
def muW (n g : Nat) (w : World) : Nat := sumN n fun i => if cellI (w.cell? ⟨g, i, none⟩) < 0 then 100 else (cellI (w.cell? ⟨g, i, none⟩)).toNat
theorem muW_own {w : World} {base g n c : Nat} {e : TypeId} {D : Nat → Int} (h : Own intCell 1 e w base (.slice (some ⟨g, 0, none⟩) n c) ((List.range n).map D)) : muW n g w = muD n D := by
  unfold muW muD
  refine sumN_congr n _ _ fun i hi => ?_
  obtain ⟨_, _, _, hc⟩ := own_ints_at h i (by simpa using hi)
  rw [hc, List.getElem_map, List.getElem_range]
  rfl
theorem wants_row {D : Nat → Int} {p : Place} {s d : Nat} (hs : p.src = (s : Int)) (hd : p.dst = (d : Int)) : wants D p = (decide (0 ≤ D s) && (decide (D d < 0) || decide (D s + p.tokens < D d))) := by
  unfold wants
  rw [hs, hd, Int.toNat_natCast, Int.toNat_natCast]
def distD (n : Nat) (gp : List Place) (f : Nat) (i : Nat) : Int := if itF n (tokF gp) n i f = bot then -1 else - itF n (tokF gp) n i f
theorem dist_at {w : World} {base n f : Nat} {e : TypeId} {v : Value} {gp : List Place} (h : Own intCell 1 e w base v ((List.range n).map (distD n gp f))) (i : Nat) (hi : i < n) :
    ∃ g c, v = .slice (some ⟨g, 0, none⟩) n c ∧ w.cell? ⟨g, i, none⟩ = some (.int .i64 (distD n gp f i)) := by
  obtain ⟨g, c, rfl, _, _, _, hc⟩ := h.at_ intCell_len i (by simpa using hi)
  exact ⟨g, c, by simp, by simpa using hc 0 _ (by omega) rfl⟩
/-- The state of one pass over the places. -/
def PassOk (n f : Nat) (gp : List Place) (D0 : Nat → Int) (k : Nat) (ch : Bool) (D : Nat → Int) : Prop :=
  DOk n f gp D ∧ (ch = false → D = D0 ∧ ∀ j (hj : j < gp.length), j < k → wants D0 gp[j] = false) ∧ (ch = true → muD n D < muD n D0)
set_option maxHeartbeats 4000000 in
set_option maxRecDepth 100000 in
theorem impl_tokenDistances (v : Value) (n : Nat) (gp : List Place) (f : Nat) (w : World) (h0 : Lst Place.cells 4 w w.heap.size v gp) (hg : Hid (okGraph n gp = true)) (hf : f < n) :
    Calls Try.prog 92 #[.agg #[.int .i64 n, v], .int .i64 f] w (RetOwn intCell 1 2 w ((List.range n).map (distD n gp f))) := by
  obtain ⟨A, c, rfl⟩ := h0.shape
  obtain ⟨hn1, hn2⟩ := okGraph_ev hg.out
  have hgl := okGraph_len hg.out
  have hmk2 := run_make_lst (P := Try.prog) intCell 1 intCell_len (by omega) (0 : Int) 50 2 _ 8 Try.underlying50 info_i64 rfl .i64 .i64 n (by omega) (by omega)
  have hm3 := fun w => (hmk2 w).1
  have hm4 := Lib.hid (fun w base h => (hmk2 w).2 base h)
  clear hmk2
  go_enter Try.func92, Try.ntmps92
  go_wp2
  clear hm3
  have hsz : w.heap.size + 1 = (w.alloc (.cells #[.int .i64 (n : Int), .slice A gp.length c] 26)).heap.size := by simp
  rw [hsz]
  clear hsz
  have hW : Below w.heap.size w (w.alloc (.cells #[.int .i64 (n:Int), .slice A gp.length c] 26)) := (Below.refl _ _).alloc (Nat.le_refl _) _; have hb0 : Blk (w.alloc (.cells #[.int .i64 (n:Int), .slice A gp.length c] 26)) w.heap.size 26 #[.int .i64 (n:Int), .slice A gp.length c] := Blk.new _ _ _; replace h0 := h0.now hW; generalize (w.alloc (.cells #[.int .i64 (n:Int), .slice A gp.length c] 26)) = W at *
  have hmk := hm4.out W W.heap.size (Nat.le_refl _)
  rw [show List.replicate n (0 : Int) = rowF n (fun _ => -1) 0 from (rowF_zero _ _).symm, Nat.mul_one] at hmk
  have hmkH := Lib.hid hmk
  clear hmk
  have hA : Below W.heap.size W (W.alloc (.cells (madeCells (intCell 0).toArray n) 2)) := (Below.refl _ _).alloc (Nat.le_refl _) _
  go_loopw [6, 16] (fun _ q wr => ∃ k : Nat, k ≤ n ∧ q = .int .i64 k ∧ Own intCell 1 2 wr W.heap.size (.slice (some ⟨W.heap.size, 0, none⟩) n n) (rowF n (fun _ => -1) k) ∧ Below W.heap.size W wr) (fun _ q _ => n - (intOf q).toNat)
  case atStart => exact ⟨0, Nat.zero_le _, rfl, hmkH.out, hA⟩
  case round =>
    clear hmkH hA
    obtain ⟨k, hk, rfl, hO, hB⟩ := hrel
    by_cases hlt : k < n
    · obtain ⟨hob, hol, hof, _⟩ := own_ints_at hO k (by rw [rowF_len _ _ _ hk]; exact hlt)
      have hO1 := hO.set1 k (by rw [rowF_len _ _ _ hk]; exact hlt) (-1)
      rw [rowF_set n (fun _ => (-1 : Int)) k hlt] at hO1
      have hB1 := hB.setCell (p := ⟨W.heap.size, k, none⟩) (Nat.le_refl _) (.int .i64 (-1))
      have hO1' := Lib.hid hO1
      have hB1' := Lib.hid hB1
      clear hO1 hB1
      go_wp2
      go_roundw
      case rel => exact ⟨k + 1, hlt, by go_num, hO1'.out, hB1'.out⟩
      case measure => simp [intOf]; omega
    · obtain rfl : k = n := by omega
      rw [rowF_all] at hO
      obtain ⟨hob, hol, hof, _⟩ := own_ints_at hO f (by simpa using hf)
      have hO1 := hO.set1 f (by simpa using hf) 0
      rw [map_updD] at hO1
      have hB1 := hB.setCell (p := ⟨W.heap.size, f, none⟩) (Nat.le_refl _) (.int .i64 0)
      have hO1' := Lib.hid hO1
      have hB1' := Lib.hid hB1
      have hbr := hb0.now hB
      have hfirst := Lib.hid (DOk.first (gp := gp) hf)
      have i1 : (0 : Int) ≤ (f : Int) := by omega
      have i2 : (f : Int) < (k : Int) := by omega
      clear hO1 hB1 hO hB
      go_wp2
      clear hof
      generalize hVV : wr.setCell ⟨W.heap.size, f, none⟩ (.int .i64 0) = V at *
      clear hVV
      go_loopw [7, 9, 10] (fun ch _ _ wr => ∃ (cb : Bool) (D : Nat → Int), ch = .bool cb ∧ Hid (DOk k f gp D) ∧ Hid (cb = false → ∀ p ∈ gp, wants D p = false) ∧ Own intCell 1 2 wr W.heap.size (.slice (some ⟨W.heap.size, 0, none⟩) k k) ((List.range k).map D) ∧ Below W.heap.size W wr) (fun ch _ _ wr => 2 * muW k W.heap.size wr + (match ch with | .bool true => 1 | _ => 0))
      case atStart => exact ⟨true, _, rfl, hfirst, (fun h => Bool.noConfusion h), hO1'.out, hB1'.out⟩
      case round =>
        clear hO1' hB1' hfirst hbr
        obtain ⟨cb, D, rfl, hD, hst, hO, hB⟩ := hrel
        have hmu := Lib.hid (muW_own hO)
        cases cb
        · have hfin : Hid ((List.range k).map D = (List.range k).map (distD k gp f)) := by
            show _ = _
            refine List.map_congr_left fun i hi => ?_
            exact hD.out.star hg.out hf (hst.out rfl) i (List.mem_range.1 hi)
          rw [hfin.out] at hO
          go_wp2
          go_ret
          exact ⟨_, rfl, hO.rebase hW.size, hW.trans (hB.mono hW.size)⟩
        · obtain ⟨k0, k1⟩ := (hb0.now hB).c2
          have l0 := (hb0.now hB).lt
          go_wp2
          clear k0 k1 l0
          obtain ⟨wo, rfl⟩ : ∃ wo : World, wo = wr := ⟨_, rfl⟩
          have hp0 : Hid (PassOk k f gp D 0 false D) := ⟨hD.out, (fun _ => ⟨rfl, fun j _ h => absurd h (by omega)⟩), (fun h => Bool.noConfusion h)⟩
          go_loopw [7, 9, 10, 30] (fun ch _ _ q wr => ∃ (j : Nat) (cb : Bool) (D1 : Nat → Int), j ≤ gp.length ∧ q = .int .i64 j ∧ ch = .bool cb ∧ Hid (PassOk k f gp D j cb D1) ∧ Own intCell 1 2 wr W.heap.size (.slice (some ⟨W.heap.size, 0, none⟩) k k) ((List.range k).map D1) ∧ Below W.heap.size W wr) (fun _ _ _ q _ => gp.length - (intOf q).toNat)
          case atStart => exact ⟨0, false, D, Nat.zero_le _, rfl, rfl, hp0, hO, hB⟩
          case round =>
            clear hp0 hO hB
            obtain ⟨j, cb, D1, hj, rfl, rfl, hP, hO, hB⟩ := hrel
            by_cases hlt : j < gp.length
            · obtain ⟨b0, off, hA0, hbb, d0, d1, d2, d3⟩ := places_at (h0.now hB) j hlt
              cases hA0
              have hp := okGraph_place hg.out (List.getElem_mem hlt)
              obtain ⟨s, hs0⟩ := Int.eq_ofNat_of_zero_le hp.1.1
              obtain ⟨d, hd0⟩ := Int.eq_ofNat_of_zero_le hp.2.1.1
              have hsn : s < k := by omega
              have hdn : d < k := by omega
              have hww := wants_row (D := D1) hs0 hd0
              have hro := relax_ok hg.out hP.out.1 gp[j] (List.getElem_mem hlt)
              rw [hs0, hd0, Int.toNat_natCast, Int.toNat_natCast] at hro
              have hsm := hP.out.1.small (by omega) s hsn
              have hdm := hP.out.1.small (by omega) d hdn
              rw [hs0] at d0
              rw [hd0] at d1
              obtain ⟨tk, htk⟩ : ∃ tk, gp[j].tokens = tk := ⟨_, rfl⟩
              rw [htk] at d3 hww hro
              have ht := hp.2.2.2
              rw [htk] at ht
              obtain ⟨dl, hdl⟩ : ∃ dl, gp[j].delay = dl := ⟨_, rfl⟩
              rw [hdl] at d2
              have hww' := Lib.hid hww
              have hro' := Lib.hid hro
              clear hww hro hs0 hd0 hp htk hdl
              obtain ⟨_, hol, hof, hcs⟩ := own_ints_at hO s (by simpa using hsn)
              obtain ⟨_, _, _, hcd⟩ := own_ints_at hO d (by simpa using hdn)
              rw [List.getElem_map, List.getElem_range] at hcs hcd
              obtain ⟨ds, hds⟩ : ∃ ds, D1 s = ds := ⟨_, rfl⟩
              obtain ⟨dd, hdd⟩ : ∃ dd, D1 d = dd := ⟨_, rfl⟩
              rw [hds] at hcs hsm
              rw [hdd] at hcd hdm
              have hds' := Lib.hid hds
              have hdd' := Lib.hid hdd
              clear hds hdd
              have hA1 : Below wr.heap.size wr (wr.alloc (.cells #[.int .i64 s, .int .i64 d, .int .i64 dl, .int .i64 tk] 46)) := (Below.refl _ _).alloc (Nat.le_refl _) _
              have hO1 := hO.now hA1
              have hB1 := hB.trans (hA1.mono hB.size)
              have i1 : (0 : Int) ≤ (s : Int) := by omega
              have i2 : (s : Int) < (k : Int) := by omega
              have i3 : (0 : Int) ≤ (d : Int) := by omega
              have i4 : (d : Int) < (k : Int) := by omega
              have keepP : ∀ cb, wants D1 gp[j] = false → PassOk k f gp D j cb D1 → PassOk k f gp D (j + 1) cb D1 := fun cb hw h => ⟨h.1, fun hc => ⟨(h.2.1 hc).1, fun i hi hij => by
                by_cases e : i = j
                · subst e; rw [← (h.2.1 hc).1]; exact hw
                · exact (h.2.1 hc).2 i hi (by omega)⟩, h.2.2⟩
              have keepP' := Lib.hid keepP
              clear keepP
              by_cases hneg : ds < 0
              · have hnw : wants D1 gp[j] = false := by rw [hww'.out, hds'.out, decide_eq_false (by omega), Bool.false_and]
                have hP' := Lib.hid (keepP'.out cb hnw hP.out)
                clear hnw
                go_wp2
                go_roundw
                case rel => exact ⟨j + 1, cb, D1, hlt, by go_num, rfl, hP', hO1, hB1⟩
                case measure => simp [intOf]; omega
              · go_wp2_with fail
                have hbx := Blk.newAt wr (t := 46) (cs := #[.int .i64 s, .int .i64 d, .int .i64 dl, .int .i64 tk]) _ rfl
                replace hcs := cell_keep hcs hA1
                replace hcd := cell_keep hcd hA1
                clear d0 d1 d2 d3 hbb hA1 hof hol hO hB
                generalize wr.alloc (.cells #[.int .i64 s, .int .i64 d, .int .i64 dl, .int .i64 tk] 46) = V1 at *
                generalize wr.heap.size = bx at *
                obtain ⟨c0, c1', c2, c3⟩ := hbx.c4
                have lx := hbx.lt
                obtain ⟨_, hol, hof, _⟩ := own_ints_at hO1 d (by simpa using hdn)
                have hsm1 : IntKind.i64.wrap (ds + tk) = ds + tk := IntWalk.i64_in _ (by omega)
                have hBd : Below V1.heap.size V1 V1.drew := Below.drew (Below.refl _ V1)
                have z0 := cell_keep c0 hBd
                have z1 := cell_keep c3 hBd
                have z2 := cell_keep hcs hBd
                refine wp_region_held_drew (S := fun w' => w'.cell? ⟨bx, 0, none⟩ = some (.int .i64 (s : Nat)) ∧ w'.cell? ⟨bx, 3, none⟩ = some (.int .i64 tk) ∧ w'.cell? ⟨W.heap.size, s, none⟩ = some (.int .i64 ds)) (by kernel_rfl) ⟨z0, z1, z2⟩ (fun hH => ?_)
                refine tkH 0 (v := ?_) rfl (fun _ _ _ h => h) (Or.inl ⟨by rfl, ?_⟩) hH ?_
                rotate_left
                · intro w9 hSw
                  try dsimp only at hSw
                  obtain ⟨s0, s1, s2⟩ := hSw
                  go_simp
                  try with_reducible rfl
                try simp only [Act.put, List.setIfInBounds_toArray, List.set_cons_zero, List.set_cons_succ]
                refine tkH 1 (v := ?_) rfl (fun _ _ _ h => h) (Or.inl ⟨by rfl, ?_⟩) hH ?_
                rotate_left
                · intro w9 hSw
                  try dsimp only at hSw
                  obtain ⟨s0, s1, s2⟩ := hSw
                  go_simp
                  try with_reducible rfl
                try simp only [Act.put, List.setIfInBounds_toArray, List.set_cons_zero, List.set_cons_succ]
                refine tkH 2 (v := ?_) rfl (fun _ _ _ h => h) (Or.inl ⟨by rfl, ?_⟩) hH ?_
                rotate_left
                · intro w9 hSw
                  try dsimp only at hSw
                  obtain ⟨s0, s1, s2⟩ := hSw
                  go_simp
                  try with_reducible rfl
                try simp only [Act.put, List.setIfInBounds_toArray, List.set_cons_zero, List.set_cons_succ]
                refine tkH 3 (v := ?_) rfl (fun _ _ _ h => h) (Or.inl ⟨by rfl, ?_⟩) hH ?_
                rotate_left
                · intro w9 hSw
                  try dsimp only at hSw
                  obtain ⟨s0, s1, s2⟩ := hSw
                  go_simp
                  try with_reducible rfl
                try simp only [Act.put, List.setIfInBounds_toArray, List.set_cons_zero, List.set_cons_succ]
                refine tkH 4 (v := ?_) rfl (fun _ _ _ h => h) (Or.inl ⟨by rfl, ?_⟩) hH ?_
                rotate_left
                · intro w9 hSw
                  try dsimp only at hSw
                  obtain ⟨s0, s1, s2⟩ := hSw
                  go_simp
                  try with_reducible rfl
                try simp only [Act.put, List.setIfInBounds_toArray, List.set_cons_zero, List.set_cons_succ]
                refine tkH 5 (v := ?_) rfl (fun _ _ _ h => h) (Or.inl ⟨by rfl, ?_⟩) hH ?_
                rotate_left
                · intro w9 hSw
                  try dsimp only at hSw
                  obtain ⟨s0, s1, s2⟩ := hSw
                  go_simp
                  try with_reducible rfl
                try simp only [Act.put, List.setIfInBounds_toArray, List.set_cons_zero, List.set_cons_succ]
                refine tkH 6 (v := ?_) rfl (fun _ _ _ h => h) (Or.inl ⟨by rfl, ?_⟩) hH ?_
                rotate_left
                · intro w9 hSw
                  try dsimp only at hSw
                  obtain ⟨s0, s1, s2⟩ := hSw
                  go_simp
                  try with_reducible rfl
                try simp only [Act.put, List.setIfInBounds_toArray, List.set_cons_zero, List.set_cons_succ]
                refine tkH 7 (v := ?_) rfl (fun _ _ _ h => h) (Or.inl ⟨by rfl, ?_⟩) hH ?_
                rotate_left
                · intro w9 hSw
                  try dsimp only at hSw
                  obtain ⟨s0, s1, s2⟩ := hSw
                  go_simp
                  try with_reducible rfl
                try simp only [Act.put, List.setIfInBounds_toArray, List.set_cons_zero, List.set_cons_succ]
                refine tkH 8 (v := ?_) rfl (fun _ _ _ h => h) (Or.inl ⟨by rfl, ?_⟩) hH ?_
                rotate_left
                · intro w9 hSw
                  try dsimp only at hSw
                  obtain ⟨s0, s1, s2⟩ := hSw
                  go_simp
                  try with_reducible rfl
                try simp only [Act.put, List.setIfInBounds_toArray, List.set_cons_zero, List.set_cons_succ]
                refine wpAnyH_done (by kernel_rfl) ?_ _
                have hO2 := hO1.now hBd
                have hB2 := hB1.trans (hBd.mono hB1.size)
                have hcd2 := cell_keep hcd hBd
                have e1 := cell_keep c1' hBd
                have l2 : bx < V1.drew.heap.size := lx
                have hof2 : ∀ j, V1.drew.frozen? ⟨W.heap.size, j, none⟩ = false := hof
                clear z0 z1 z2 hH c0 c1' c2 c3 hcs hcd hof hO1 hB1 lx
                generalize V1.drew = V2 at *
                by_cases hw : dd < 0 ∨ ds + tk < dd
                · have hwt : wants D1 gp[j] = true := by
                    rw [hww'.out, hds'.out, hdd'.out, decide_eq_true (by omega), Bool.true_and]
                    rcases hw with h | h <;> simp [h]
                  obtain ⟨hok, hmu2⟩ := hro'.out hwt
                  rw [hds'.out] at hok hmu2
                  have hmu3 : muD k (updD D1 d (ds + tk)) < muD k D := by
                    cases cb
                    · have := (hP.out.2.1 rfl).1
                      rw [this] at hmu2 ⊢
                      exact hmu2
                    · have := hP.out.2.2 rfl
                      omega
                  have hP' : Hid (PassOk k f gp D (j + 1) true (updD D1 d (ds + tk))) := ⟨hok, (fun h => Bool.noConfusion h), (fun _ => hmu3)⟩
                  have hO3 := hO2.set1 d (by simpa using hdn) (ds + tk)
                  rw [map_updD] at hO3
                  have hB3 := hB2.setCell (p := ⟨W.heap.size, d, none⟩) (Nat.le_refl _) (.int .i64 (ds + tk))
                  have hO3' := Lib.hid hO3
                  have hB3' := Lib.hid hB3
                  clear hok hmu2 hmu3 hO3 hB3 hwt
                  by_cases hdneg : dd < 0
                  · clear hw
                    go_wp2
                    go_roundw
                    case rel => exact ⟨j + 1, true, _, hlt, by go_num, rfl, hP', hO3'.out, hB3'.out⟩
                    case measure => simp [intOf]; omega
                  · have hw2 : ds + tk < dd := by omega
                    clear hw
                    go_wp2
                    go_roundw
                    case rel => exact ⟨j + 1, true, _, hlt, by go_num, rfl, hP', hO3'.out, hB3'.out⟩
                    case measure => simp [intOf]; omega
                · have hnw : wants D1 gp[j] = false := by
                    rw [hww'.out, hds'.out, hdd'.out, decide_eq_false (show ¬ dd < 0 by omega), decide_eq_false (show ¬ ds + tk < dd by omega)]
                    simp
                  have hP' := Lib.hid (keepP'.out cb hnw hP.out)
                  have hw1 : ¬ dd < 0 := by omega
                  have hw2 : ¬ ds + tk < dd := by omega
                  clear hnw hw
                  go_wp2
                  go_roundw
                  case rel => exact ⟨j + 1, cb, D1, hlt, by go_num, rfl, hP', hO2, hB2⟩
                  case measure => simp [intOf]; omega
            · obtain rfl : j = gp.length := by omega
              have hmu2 := Lib.hid (muW_own hO)
              go_wp2
              go_roundw
              case rel => exact ⟨cb, D1, rfl, hP.out.1, fun hc p hp => by
                obtain ⟨i, hi, rfl⟩ := List.mem_iff_getElem.1 hp
                have h1 := hP.out.2.1 hc
                rw [h1.1]
                exact h1.2 i hi hi, hO, hB⟩
              case measure =>
                show 2 * muW k W.heap.size wr + _ < 2 * muW k W.heap.size wo + _
                rw [hmu.out, hmu2.out]
                have h1 := hP.out.2
                cases cb with
                | false => rw [(h1.1 rfl).1]; simp
                | true => have := h1.2 rfl; simp; omega
end Go.Proofs.Ytcoomogabicfnaa
