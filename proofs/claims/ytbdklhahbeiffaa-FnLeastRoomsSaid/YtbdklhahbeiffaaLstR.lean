/-
  LeastRoom, both: the least rooms of a list of one place.
-/
import Derived.RangeFuncNested
import Derived.RangeFuncLeaves
import Derived.OrdersHeld
import Derived.TacticsIn
import Derived.Test.YtbdklhahbeiffaaCore
import Derived.Test.YtbdklhahbeiffaaLstS
import Derived.Test.YtbdklhahbeiffaaCmpL
import Derived.RangeFuncBound
import Derived.RangeFuncCalls
import Derived.OwnWalkIn
import Derived.TacticsInMore
import Derived.LoopNIn
import Derived.LoopIn
namespace Go.Proofs.Ytbdklhahbeiffaa
open Go Go.RowKit
set_option linter.unusedVariables false
set_option linter.unusedSimpArgs false

theorem rows_round {l n : Nat} {P : Program} {row : String} {args : Array Value} {w : World} {R : Value → World → Prop} (h : Rows P row args w R) : RowsIn (Fence.wide.inRound l) n P row args w R :=
  fun c cs _ => let ⟨v, w', r, s⟩ := h c cs; ⟨v, w', r, stepsIn_wide.2 s⟩
theorem calls_round {l n : Nat} {P : Program} {f : FuncId} {args : Array Value} {w : World} {R : Ending → World → Prop} (h : Calls P f args w R) : CallsIn (Fence.wide.inRound l) n P f args w R :=
  CallsIn.inRound l (callsIn_wide.2 h)
/-- One operation of a round: as anywhere. -/
theorem oper_round {l n : Nat} {P : Program} {o : Oper} {a : Act} {w : World} {K : Act → World → Prop} {Q : Exit → Act → World → Prop} (hd : ∀ c, o.op ≠ .defer c) (h : o.wp P a w K Q) : o.wpIn (Fence.wide.inRound l) n P a w K Q := by
  refine ⟨fun _ _ => trivial, ?_⟩
  rw [show (Fence.wide.inRound l).round = some l from rfl, Oper.semAt_some l a.eval o hd]
  unfold Oper.wp at h
  generalize (execOp a.eval o).run P w = r at *
  cases r with
  | ok x w' =>
    cases x with
    | value v => exact h
    | skip => exact h
    | defer d => exact h
    | enter f args =>
      refine ⟨fun h => (by cases h), (calls_round h).mono fun e w'' he => ?_⟩
      cases e <;> exact he
    | row row args => exact ⟨fun h => (by cases h), rows_round h⟩
    | _ => exact h.elim
  | halt x w' => cases x <;> exact h
/-- A region of a round: as anywhere. -/
theorem ops_round {l n : Nat} {P : Program} {ops : Array Oper} {Q : Exit → Act → World → Prop} (hd : ∀ (i : Nat) (o : Oper), ops[i]? = some o → ∀ c, o.op ≠ .defer c) (hq : ¬ LetsOut Q) :
    ∀ (is : List Nat) (a : Act) (w : World), wpOps P ops Q is a w → wpOpsIn (Fence.wide.inRound l) n P ops Q is a w := by
  intro is
  induction is with
  | nil => exact fun a w h => h
  | cons i is ih =>
    intro a w h
    rw [wpOps_cons] at h
    unfold wpOp at h
    simp only [wpOpsIn]
    cases ho : ops[i]? with
    | none => rw [ho] at h; exact ih _ _ h
    | some o =>
      rw [ho] at h
      simp only at h ⊢
      split
      · rename_i hw
        simp only [hw, if_true] at h
        exact oper_round (hd i o ho) (Oper.wp_mono (fun a w => ih a w) (h.resolve_right fun h => hq h.2))
      · rename_i hw
        simp only [hw] at h
        exact ⟨fun _ _ => trivial, ih _ _ h⟩
/-- No operation defers. -/
def noDefer (ops : Array Oper) : Bool := ops.toList.all fun o => match o.op with | .defer _ => false | _ => true
theorem noDefer_spec {ops : Array Oper} (h : noDefer ops = true) (i : Nat) (o : Oper) (ho : ops[i]? = some o) (c : _) : o.op ≠ .defer c := by
  have := List.all_eq_true.1 h o (by
    rw [Array.mem_toList_iff]
    exact Array.mem_of_getElem? ho)
  intro e
  rw [e] at this
  cases this
theorem region_round_any {l n id : Nat} {P : Program} {ops : Array Oper} {Q : Exit → Act → World → Prop} {a : Act} {w : World} (hd : noDefer ops = true) (hq : ¬ LetsOut Q) (hm : P.follows .mixedOrders = true)
    (h : wpAny P .any ops Q ops.size (Array.replicate ops.size false) a w.drew) : (Code.region id ops true).wpIn (Fence.wide.inRound l) n P Q a w :=
  wpIn_region_draw fun t => by
    simp only [Region.schedule, hm, Bool.true_or, if_true]
    exact ops_round (noDefer_spec hd) hq _ _ _ (wpAny_sound ops.size t _ a _ h)
theorem region_round_H {l n id : Nat} {P : Program} {ops : Array Oper} {Q : Exit → Act → World → Prop} {a : Act} {w : World} {S : World → Prop} (hd : noDefer ops = true) (hq : ¬ LetsOut Q) (hm : P.follows .mixedOrders = true)
    (hS : S w.drew) (h : S w.drew → wpAnyH P .any ops Q S ops.size (Array.replicate ops.size false) a w.drew) : (Code.region id ops true).wpIn (Fence.wide.inRound l) n P Q a w :=
  region_round_any hd hq hm (wpAny_of_held _ _ _ _ (h hS))
theorem keepsFrom_below {B : Nat} {W W' : World} (h : Below W.heap.size W W') : KeepsFrom B W W' :=
  ⟨h.size, fun k o _ hk _ => (h.block k (Array.getElem?_eq_some_iff.1 hk).1).trans hk⟩

/-- What a turn of the loop's own book-keeping, or of the iterator's own row g, or a new block, leaves as it is. -/
def Bears {β : Type} (B g : Nat) (I : β → World → Prop) : Prop :=
  ∀ s W W' row, I s W → W.grownBy W' row → (∀ r, row = some r → B ≤ r ∧ (r = g ∨ ∃ o : Obj, W.heap[r]? = some o ∧ o.isCells = false)) → I s W'
theorem Bears.putObj {β : Type} {B g : Nat} {I : β → World → Prop} (h : Bears B g I) {s : β} {W : World} {l : Nat} {o : Obj} (o' : Obj) (hs : I s W) (hB : B ≤ l) (hl : W.heap[l]? = some o) (ho : o.isCells = false) : I s (W.putObj l o') :=
  h s W _ (some l) hs (grownBy_putObj' W l o') (fun r e => by cases e; exact ⟨hB, .inr ⟨o, hl, ho⟩⟩)
theorem Bears.alloc {β : Type} {B g : Nat} {I : β → World → Prop} (h : Bears B g I) {s : β} {W : World} (o : Obj) (hs : I s W) : I s (W.alloc o) :=
  h s W _ none hs (World.grownBy_alloc W o none) (fun r e => by cases e)

/-- How a round ends: it goes on; the book-keeping, what lies below n₀ and the iterator's blocks are as they were. -/
def rowPost {α : Type} (B n₀ : Nat) (Ks : Nat → Prop) (I : List α → World → Prop) (xs : List α) (W : World) : Exit → Act → World → Prop := fun e _ W' =>
  e = .normal ∧ KeepsFrom B W W' ∧ Below n₀ W W' ∧ (∀ k, Ks k → W'.heap[k]? = W.heap[k]?) ∧ I xs W'
/-- A loop over an iterator that keeps ONE row of cells of its own (block g, laid right behind the loop's book-keeping), hands out what lies in it, and is never told to stop. -/
theorem wpIn_rangeFunc_row {n : Nat} {P : Program} {α : Type} {g : Operand} {ps : Array Tmp} {assign body : Code} {Q : Exit → Act → World → Prop} {a : Act} {w : World}
    {gf : Nat} {lb : Array Value} (hg : a.eval g = .func (.func gf) #[] lb) (eg : ∀ args w, (callFunc gf args).run P w = .ok (.enter gf args) w)
    (encs : α → Array Value) (hps : ∀ x, (encs x).size = ps.size) (Has : List α → α → World → Prop) (n₀ : Nat) (hn₀ : n₀ ≤ w.heap.size) (Ks : Nat → Prop) (hKs : ∀ k, Ks k → k ≠ w.heap.size + 1) (S : List α → Prop)
    (hHas : ∀ pre x W l o o', l ≠ w.heap.size + 2 → W.heap[l]? = some o → Has pre x W → Has pre x (W.putObj l o'))
    (hseq : ∀ (J : List α → World → Prop) (W : World), W.heap.size = w.heap.size + 2 → Below w.heap.size w W →
      (∀ s A B row, J s A → A.grownBy B row → (∀ r, row = some r → r = w.heap.size + 2) → J s B) →
      (∀ pre x W1, J pre W1 → Has pre x W1 → YieldAt Fence.wide (n - 1 - 1) P (w.heap.size + 1) (encs x) W1 fun e W' => e = .returned (.bool true) ∧ J (pre ++ [x]) W' ∧ Below n₀ W1 W' ∧ ∀ k, Ks k → W'.heap[k]? = W1.heap[k]?) →
      J [] W →
      CallsIn Fence.wide (n - 1) P gf (#[.func (.yield (w.heap.size + 1)) #[] #[]] ++ lb) W fun e W' => (∃ v, e = .returned v) ∧ ∃ xs, S xs ∧ J xs W')
    (I : List α → World → Prop) (hI : Bears w.heap.size (w.heap.size + 2) I) (h0 : I [] w) (a₁ : α → Act)
    (hassign : ∀ (l : Nat) (x : α) (W : World) (K : Act → World → Prop), K (a₁ x) W →
      assign.wpIn (Fence.wide.inRound l) (n - 1 - 1) P (Exit.then K (fun _ _ _ => False)) { tmps := (ps.zip (encs x)).foldl (fun t (p, v) => t.setIfInBounds p v) a.tmps, defers := [] } W)
    (hbody : ∀ (l : Nat) (pre : List α) (x : α) (W : World), w.heap.size + 2 < W.heap.size → I pre W → Has pre x W →
      body.wpIn (Fence.wide.inRound l) (n - 1 - 1) P (rowPost w.heap.size n₀ Ks I (pre ++ [x]) W) (a₁ x) W)
    (hHasLt : ∀ pre x W, Has pre x W → w.heap.size + 2 < W.heap.size)
    (hdone : ∀ (D : Nat) (xs : List α) (W : World), w.heap.size ≤ D → S xs → I xs W → W.heap[D]? = some (.deferred (some [])) → Q .normal { a with defers := { target := .collected D, args := #[] } :: a.defers } W) :
    (Code.rangeFunc g ps assign body).wpIn Fence.wide n P Q a w := by
  refine wpIn_rangeFunc ?_
  intro fn hfn
  rw [show Fence.wide.round = none from rfl]
  obtain ⟨rec, hrec⟩ : ∃ rec : LoopState → Option Code → Loop, rec = fun st pe => { state := st, pending := pe, fn, tmps := a.tmps, params := ps, assign, body, defers := w.heap.size } := ⟨_, rfl⟩
  obtain ⟨W1, hW1⟩ : ∃ W1, (w.alloc (.deferred (some []))).alloc (.loop (rec .ready none)) = W1 := ⟨_, rfl⟩
  have hL1 : W1.heap[w.heap.size + 1]? = some (.loop (rec .ready none)) := by
    rw [← hW1]; have := World.alloc_heap_new (w.alloc (.deferred (some []))) (.loop (rec .ready none)); rwa [World.size_alloc] at this
  have hK1 : W1.heap[w.heap.size]? = some (.deferred (some [])) := by
    rw [← hW1]; exact (Below.heap_alloc _ _ _ (by simp)).trans (World.alloc_heap_new w _)
  have hI1 : I [] W1 := by rw [← hW1]; exact hI.alloc _ (hI.alloc _ h0)
  have hb1 : Below w.heap.size w W1 := by
    rw [← hW1]; exact ((Below.refl _ w).alloc (Nat.le_refl _) _).alloc (by simp) _
  have hs1 : W1.heap.size = w.heap.size + 2 := by rw [← hW1]; simp
  refine ⟨w.heap.size + 1, [{ target := .collected w.heap.size, args := #[] }], W1, { target := .fn (.func gf) lb, args := #[.func (.yield (w.heap.size + 1)) #[] #[]] }, W1, gf,
    #[.func (.yield (w.heap.size + 1)) #[] #[]] ++ lb, W1, ?_, ?_, ?_, ?_, fun h => (by cases h), ?_⟩
  · rw [← hW1, hrec]; exact run_enterLoop_outer _ _ _ _ _
  · simp only [resolve, hg]
    simp [go_sem]
  · intro f' _; trivial
  · simp [invoke, go_sem, eg]
  · have keep : ∀ {A B : World} {row : Option Nat} {k : Nat} {o : Obj}, A.grownBy B row → (∀ r, row = some r → r = w.heap.size + 2) → k < w.heap.size + 2 → A.heap[k]? = some o → B.heap[k]? = some o :=
      fun hg hr hk ho => (hg.block _ (Array.getElem?_eq_some_iff.1 ho).1 (fun e => by have := hr _ e.symm; omega)).trans ho
    refine (hseq
      (fun pre W => I pre W ∧ W.heap[w.heap.size + 1]? = some (.loop (rec .ready none)) ∧ W.heap[w.heap.size]? = some (.deferred (some [])))
      W1 hs1 hb1
      (fun s A B row hs hg' hr => ⟨hI s A B row hs.1 hg' (fun r e => by have := hr r e; exact ⟨by omega, .inl this⟩), keep hg' hr (by omega) hs.2.1, keep hg' hr (by omega) hs.2.2⟩)
      ?_ ⟨hI1, hL1, hK1⟩).mono ?_
    · rintro pre x W ⟨hi, hl, hk⟩ hx
      have hlt : w.heap.size + 1 < W.heap.size := (Array.getElem?_eq_some_iff.1 hl).1
      have hy := run_yield (P := P) (args := encs x) hl (by rw [hrec]; exact hps x)
      rw [hrec] at hy
      refine ⟨fn, _, assign, body, hy, roundIn_of_wpIn trivial (hassign _ x W _ ⟨_, run_beginRound hl (by rw [hrec]), ?_⟩)⟩
      have hl2 : (W.putObj (w.heap.size + 1) (.loop { rec .ready none with state := .busy })).heap[w.heap.size + 1]? = some (.loop { rec .ready none with state := .busy }) := World.putObj_heap_same hlt
      have hk2 : (W.putObj (w.heap.size + 1) (.loop { rec .ready none with state := .busy })).heap[w.heap.size]? = some (.deferred (some [])) := (World.putObj_heap_other (by omega)).trans hk
      have hw2 : Below n₀ W (W.putObj (w.heap.size + 1) (.loop { rec .ready none with state := .busy })) := belowK_b hn₀ _ _ _ _ (by omega) hl rfl rfl
      have hg2 : ∀ k, Ks k → (W.putObj (w.heap.size + 1) (.loop { rec .ready none with state := .busy })).heap[k]? = W.heap[k]? := fun k hk => World.putObj_heap_other (fun e => hKs k hk (by omega))
      refine wpIn_mono (hbody _ pre x _ (hHasLt pre x _ (hHas pre x W _ _ _ (by omega) hl hx)) (hI.putObj _ hi (by omega) hl rfl) (hHas pre x W _ _ _ (by omega) hl hx)) ?_
      rintro e a3 W3 ⟨rfl, hk3, hkp3, hg3, hi3⟩
      have hl3 := hk3.same _ _ (by omega) hl2 rfl
      have hr := run_endRound (P := P) none hl3
      refine ⟨_, _, hr, rfl, ⟨hI.putObj _ hi3 (by omega) hl3 rfl, ?_, (World.putObj_heap_other (by omega)).trans (hk3.same _ _ (Nat.le_refl _) hk2 rfl)⟩, (hw2.trans hkp3).trans (belowK_b hn₀ _ _ _ _ (by omega) hl3 rfl rfl), ?_⟩
      · rw [World.putObj_heap_same (Array.getElem?_eq_some_iff.1 hl3).1, hrec]
        rfl
      · intro k hk
        rw [World.putObj_heap_other (fun e => hKs k hk (by omega)), hg3 k hk, hg2 k hk]
    · rintro e W2 ⟨⟨v, rfl⟩, xs, hS, hi, hl, hk⟩
      exact ⟨none, _, by have := run_endLoop (P := P) hl (by rw [hrec]; simp); rw [hrec] at this; exact this, hdone _ xs _ (Nat.le_refl _) hS (hI.putObj _ hi (by omega) hl rfl) ((World.putObj_heap_other (by omega)).trans hk)⟩
end Go.Proofs.Ytbdklhahbeiffaa
namespace Go.Proofs.Ytbdklhahbeiffaa
open Go.RowKit
set_option linter.unusedVariables false
set_option linter.unusedSimpArgs false
attribute [local go_sem] Oper.semAt_some
theorem gr_trans {a b c : World} {row : Option Nat} (h : a.grownBy b row) (k : b.grownBy c row) : a.grownBy c row :=
  ⟨k.os.trans h.os, k.tape.trans h.tape, k.output.trans h.output, Nat.le_trans h.size k.size, fun i hi hr => (k.block i (Nat.lt_of_lt_of_le hi h.size) hr).trans (h.block i hi hr)⟩
theorem gr_below {a b : World} (row : Option Nat) (h : Below a.heap.size a b) : a.grownBy b row := ⟨h.os, h.tape, h.output, h.size, fun i hi _ => h.block i hi⟩
theorem gr_set (w : World) (g k : Nat) (u : Value) : w.grownBy (w.setCell ⟨g, k, none⟩ u) (some g) :=
  ⟨rfl, rfl, rfl, (KeepsWalks.setCell w _ u).size, fun i _ hk => Below.heap_setCell _ _ _ i (fun e => hk (by rw [e]))⟩
theorem gr_to {a b : World} {B g : Nat} (h : a.grownBy b (some g)) (hB : B ≤ a.heap.size) (hg : B ≤ g) : Below B a b := (Below.refl B a).grown h hB (fun k e => by cases e; exact hg)
theorem own_same {w w' : World} {base g n c : Nat} {x : List Int} {t : TypeId} (h : Own intCell 1 t w base (.slice (some ⟨g, 0, none⟩) n c) x) (hg : w'.heap[g]? = w.heap[g]?) : Own intCell 1 t w' base (.slice (some ⟨g, 0, none⟩) n c) x := by
  refine ⟨h.1, ?_⟩
  rcases h.2 with ⟨hn, _⟩ | ⟨g', cap, cur, hv, hb, hgg, rest⟩
  · cases hn
  · injection hv with hA hn hc
    injection hA with hA
    injection hA with hA
    subst hA
    exact .inr ⟨g, cap, cur, by rw [hn, hc], hb, hg.trans hgg, rest⟩
theorem own_bears {w w' : World} {base : Nat} {v : Value} {x : List Int} {t : TypeId} {row : Option Nat} (h : Own intCell 1 t w base v x) (hg : w.grownBy w' row) (hr : ∀ r, row = some r → v.ownBlock ≠ some r ∨ ∃ o : Obj, w.heap[r]? = some o ∧ o.isCells = false) : Own intCell 1 t w' base v x := by
  refine ⟨h.1, ?_⟩
  rcases h.2 with hn | ⟨g', cap, cur, hv, hb, hgg, rest⟩
  · exact .inl hn
  · refine .inr ⟨g', cap, cur, hv, hb, (hg.block g' (Array.getElem?_eq_some_iff.1 hgg).1 (fun e => ?_)).trans hgg, rest⟩
    rcases hr g' e.symm with h1 | ⟨o, h1, h2⟩
    · exact h1 (by rw [hv]; rfl)
    · rw [hgg] at h1
      cases h1
      cases h2
theorem lst_two (w : World) (e : TypeId) (x y : Int) : Lst intCell 1 (w.alloc (.cells #[.int .i64 x, .int .i64 y] e)) (w.alloc (.cells #[.int .i64 x, .int .i64 y] e)).heap.size (.slice (some ⟨w.heap.size, 0, none⟩) 2 2) [x, y] := by
  refine ⟨by simp [intCell], by simp [maxLen], some ⟨w.heap.size, 0, none⟩, 2, rfl, by simp, fun _ => ⟨w.heap.size, 0, rfl, by simp, fun j u hu => ?_⟩⟩
  rw [cell_of_row _ _ _ _ _ _ (heap_alloc_new w _)]
  simpa [intCell] using hu
theorem lst_slice {w : World} {B n c : Nat} {A : Option Addr} {x : List Int} (h : Lst intCell 1 w B (.slice A n c) x) (hn : x.length = n) : Lst intCell 1 w B (.slice A x.length c) x := by
  rw [hn]
  exact h
/-- The first rooms are the least ones. -/
def loR (gp : List Place) (l : List Int) (k : Nat) : List Int := (l.take k).map (roomLo gp) ++ List.replicate (l.length - k) 0
theorem loR_len (gp : List Place) (l : List Int) (k : Nat) (hk : k ≤ l.length) : (loR gp l k).length = l.length := by simp [loR]; omega
theorem loR_set (gp : List Place) (l : List Int) (k : Nat) (hk : k < l.length) : (loR gp l k).set k (roomLo gp l[k]) = loR gp l (k + 1) := by
  unfold loR
  rw [List.set_append_right _ _ (by simp; omega), take_succ_get _ _ hk, List.map_append, List.append_assoc]
  have e : k - ((l.take k).map (roomLo gp)).length = 0 := by simp; omega
  rw [e, show l.length - k = (l.length - (k + 1)) + 1 by omega, List.replicate_succ]
  rfl
theorem loR_all (gp : List Place) (l : List Int) : loR gp l l.length = l.map (roomLo gp) := by simp [loR]
set_option maxHeartbeats 1000000 in
set_option maxRecDepth 100000 in
theorem impl_roomLists (A C : Option Addr) (p c q d : Nat) (n : Int) (w : World) :
    Calls Try.prog 57 #[.agg #[.int .i64 n, .slice A p c], .slice C q d] w fun e w' => e = .returned (.func (.func 121) #[] #[.pointer (some ⟨w.heap.size + 1, 0, none⟩), .pointer (some ⟨w.heap.size, 0, none⟩)]) ∧
      Blk w' w.heap.size 32 #[.int .i64 n, .slice A p c] ∧ Blk w' (w.heap.size + 1) 38 #[.slice C q d] ∧ w'.heap.size = w.heap.size + 2 ∧ Below w.heap.size w w' := by
  have hA : Below w.heap.size w ((w.alloc (.cells #[.int .i64 n, .slice A p c] 32)).alloc (.cells #[.slice C q d] 38)) := ((Below.refl _ w).alloc (Nat.le_refl _) _).alloc (by simp) _
  have hb0 : Blk ((w.alloc (.cells #[.int .i64 n, .slice A p c] 32)).alloc (.cells #[.slice C q d] 38)) w.heap.size 32 #[.int .i64 n, .slice A p c] := (Blk.newAt w _ rfl).alloc _
  have hb1 : Blk ((w.alloc (.cells #[.int .i64 n, .slice A p c] 32)).alloc (.cells #[.slice C q d] 38)) (w.heap.size + 1) 38 #[.slice C q d] := Blk.newAt _ _ (by simp)
  go_enter Try.func57, Try.ntmps57
  go_wp2
  go_ret
  exact ⟨rfl, hb0, hb1, by simp, hA⟩
/-- What the iterator hands out: the next list of rooms, in its row g. -/
def HasR (g : Nat) (gp : List Place) (l : List Int) (pre : List (List Int)) (x : List Int) (W : World) : Prop := Hid (pre ++ [x] <+: lexR gp l) ∧ Own intCell 1 2 W g (.slice (some ⟨g, 0, none⟩) l.length l.length) x
set_option maxHeartbeats 8000000 in
set_option maxRecDepth 100000 in
theorem impl_roomLists_1 (n : Nat) (gp : List Place) (l : List Int) (A C : Option Addr) (c d gb lb g n₀ l0 m : Nat) (W : World) (hok : Hid (okGraph n gp = true)) (hbuf : Hid (bufOk gp.length l = true))
    (hgb : Blk W gb 32 #[.int .i64 (n : Int), .slice A gp.length c]) (hlb : Blk W lb 38 #[.slice C l.length d])
    (h0 : Lst Place.cells 4 W n₀ (.slice A gp.length c) gp) (h1 : Lst intCell 1 W n₀ (.slice C l.length d) l) (hg : W.heap.size = g) (hn : n₀ ≤ g)
    (J : List (List Int) → World → Prop) (hJ : ∀ s A B row, J s A → A.grownBy B row → (∀ r, row = some r → r = g) → J s B)
    (hY : ∀ pre x W1, J pre W1 → HasR g gp l pre x W1 → YieldAt Fence.wide (m - 1) Try.prog l0 #[.slice (some ⟨g, 0, none⟩) l.length l.length] W1 fun e W' => e = .returned (.bool true) ∧ J (pre ++ [x]) W' ∧ Below n₀ W1 W' ∧ ∀ k, (k = gb ∨ k = lb ∨ k = g) → W'.heap[k]? = W1.heap[k]?)
    (hJ0 : J [] W) :
    CallsIn Fence.wide m Try.prog 121 (#[.func (.yield l0) #[] #[]] ++ #[.pointer (some ⟨lb, 0, none⟩), .pointer (some ⟨gb, 0, none⟩)]) W fun e W' => (∃ v, e = .returned v) ∧ ∃ xs, xs = lexR gp l ∧ J xs W' := by
  subst hg
  have hll := (bufOk_at hbuf.out).1
  have hmk := run_make_lst (P := Try.prog) intCell 1 intCell_len (by omega) 0 38 2 _ 8 Try.underlying38 info_i64 rfl .i64 .i64 l.length (by omega) (by omega)
  have hm1 := fun w => (hmk w).1
  have hm2 := Lib.hid fun (w : World) => (hmk w).2 w.heap.size (Nat.le_refl _)
  clear hmk
  have hJH := Lib.hid hJ
  have hYH := Lib.hid hY
  have hJ0H := Lib.hid hJ0
  clear hJ hY hJ0
  obtain ⟨k0, k1⟩ := hgb.c2
  have e1 : W.cell? ⟨lb, 0, none⟩ = some (.slice C l.length d) := by simpa using hlb.cell 0
  have lt0 := hgb.lt
  have lt1 := hlb.lt
  refine callsIn_of_wp Try.func121 rfl trivial ?_ rfl
  simp only [Try.ntmps121, List.size_toArray, List.length_cons, List.length_nil, Nat.reduceAdd, Nat.reduceSub, Array.replicate_succ, Array.replicate_zero, List.push_toArray, List.append_toArray, List.nil_append, List.cons_append]
  gi_wp2
  have hO1 := hm2.out W
  have hG1 : W.grownBy (W.alloc (.cells (madeCells (intCell 0).toArray (l.length * 1)) 2)) (some W.heap.size) := World.grownBy_alloc W _ _
  simp only [Nat.mul_one] at hO1 hG1
  clear hm1 hm2
  gi_loopw [5, 6, 15] (fun _ _ i wr => ∃ k : Nat, k ≤ l.length ∧ i = .int .i64 k ∧ Own intCell 1 2 wr W.heap.size (.slice (some ⟨W.heap.size, 0, none⟩) l.length l.length) (loR gp l k) ∧ Hid (W.grownBy wr (some W.heap.size))) (fun _ _ i _ => l.length - (intOf i).toNat)
  case atStart => exact ⟨0, Nat.zero_le _, rfl, by simpa [loR] using hO1, hG1⟩
  case round =>
    clear hO1 hG1
    obtain ⟨k, hk, rfl, hO, hG⟩ := hrel
    by_cases hlt : k < l.length
    · obtain ⟨q, hq1, hql⟩ := (bufOk_at hbuf.out).2 k hlt
      have hB : Below n₀ W wr := gr_to hG.out hn hn
      obtain ⟨b, off, hA1, hb, d0, d1, d2, d3⟩ := places_at (h0.below hB (Nat.le_refl _)) q hql
      obtain ⟨b2, off2, hC1, hb2, c0⟩ := ints_at (h1.below hB (Nat.le_refl _)) k hlt
      subst hA1
      subst hC1
      rw [hq1] at c0
      obtain ⟨j0, j1⟩ := (hgb.grown hG.out (fun e => by cases e; omega)).c2
      have hpp := okGraph_place hok.out (List.getElem_mem hql)
      have ht := hpp.2.2.2
      have hloq : Hid (max 1 gp[q].tokens = roomLo gp l[k]) := by show _ = _; unfold roomLo; rw [hq1, plAt_nat _ _ hql]
      obtain ⟨lo, hlod⟩ : ∃ lo, roomLo gp l[k] = lo := ⟨_, rfl⟩
      rw [hlod] at hloq
      have hlodH := Lib.hid hlod
      have hlen := Lib.hid (loR_len gp l k hk)
      have hq0 : (0 : Int) ≤ (q : Int) := by omega
      have hq2 : (q : Int) < (gp.length : Int) := by omega
      obtain ⟨_, hgl, hfz, _⟩ := own_ints_at hO k (by rw [hlen.out]; exact hlt)
      clear hq1 hlod hpp
      gi_wp2_with fail
      refine ⟨trivial, fun h => (by cases h), (callsIn_wide.2 (impl_roomsOf _ _ _ _ _ ht.1 ht.2)).mono ?_⟩
      rintro e w2 ⟨rfl, hB2⟩
      have hO2 := hO.now hB2
      obtain ⟨_, hgl2, hfz2, c2⟩ := own_ints_at hO2 k (by rw [hlen.out]; exact hlt)
      rw [hloq.out]
      have hG2 := Lib.hid (gr_trans hG.out (gr_trans (gr_below (some W.heap.size) hB2) (gr_set w2 W.heap.size k (.int .i64 lo))))
      have hO3 := hO2.set1 k (by rw [hlen.out]; exact hlt) lo
      rw [← hlodH.out, loR_set gp l k hlt, hlodH.out] at hO3
      have hO3H := Lib.hid hO3
      clear hO3 hO2 hO hfz hgl d0 d1 d2 d3 c0 j0 j1
      gi_wp2
      go_roundw
      case rel => exact ⟨k + 1, hlt, by go_num, hO3H.out, hG2.out⟩
      case measure => simp [intOf]; omega
    · obtain rfl : k = l.length := by omega
      rw [loR_all] at hO
      have hJ1 := Lib.hid (hJH.out _ _ _ _ hJ0H.out hG.out (fun r e => by cases e; rfl))
      have hrn : Hid (∀ i ∈ l, 1 ≤ roomN gp i) := fun i hi => by
        obtain ⟨k, hk, rfl⟩ := List.mem_iff_getElem.1 hi
        obtain ⟨q, hq1, hql⟩ := (bufOk_at hbuf.out).2 k hk
        have hpp := (okGraph_place hok.out (List.getElem_mem hql)).2.2.2
        unfold roomN roomHi roomLo
        rw [hq1, plAt_nat _ _ hql]
        omega
      have hB := gr_to hG.out hn hn
      have hgb1 := hgb.grown hG.out (fun e => by cases e; omega)
      have hlb1 := hlb.grown hG.out (fun e => by cases e; omega)
      have hhead : Hid (([] : List (List Int)) ++ [l.map (roomLo gp)] <+: lexR gp l) := by
        obtain ⟨L, hL⟩ := lexR_head hrn.out
        show _ <+: _
        rw [hL]
        exact ⟨L, rfl⟩
      obtain ⟨x0, hx0⟩ : ∃ x0, l.map (roomLo gp) = x0 := ⟨_, rfl⟩
      rw [hx0] at hO hhead
      clear hx0 hG hJ0H hk hlt
      gi_wp2
      gi_loopw [7, 8, 9] (fun _ _ _ wr => ∃ (pre : List (List Int)) (x : List Int), Hid (pre ++ [x] <+: lexR gp l) ∧ Own intCell 1 2 wr W.heap.size (.slice (some ⟨W.heap.size, 0, none⟩) l.length l.length) x ∧ Hid (J pre wr) ∧ Below n₀ W wr ∧ Blk wr gb 32 #[.int .i64 (n : Int), .slice A gp.length c] ∧ Blk wr lb 38 #[.slice C l.length d]) (fun _ _ _ wr => leftR gp l (readL wr (.slice (some ⟨W.heap.size, 0, none⟩) l.length l.length)))
      case atStart => exact ⟨[], x0, hhead.out, hO, hJ1.out, hB, hgb1, hlb1⟩
      case round =>
        clear hO hhead hJ1 hB hgb1 hlb1
        obtain ⟨pre, x, hp, hO, hJp, hB, hgb1, hlb1⟩ := hrel
        obtain ⟨Wo, hWo⟩ : ∃ Wo : World, Wo = wr := ⟨_, rfl⟩
        subst hWo
        have hmu := Lib.hid (readL_of hO.lst)
        obtain ⟨fn, tmps, assign, body, hy, hR⟩ := hYH.out pre x _ hJp.out ⟨hp, hO⟩
        have hxl : Hid (x.length = l.length) := lexR_len (hp.out.subset (by simp))
        gi_wp2
        refine ⟨fun h => (by cases h), hR.mono ?_⟩
        rintro e W3 ⟨rfl, hJ3, hB3, hg3⟩
        have hO3 := own_same hO (hg3 _ (.inr (.inr rfl)))
        have hgb3 : Blk W3 gb 32 #[.int .i64 (n : Int), .slice A gp.length c] := (hg3 _ (.inl rfl)).trans hgb1
        have hlb3 : Blk W3 lb 38 #[.slice C l.length d] := (hg3 _ (.inr (.inl rfl))).trans hlb1
        have hBW := hB.trans hB3
        have hJ3H := Lib.hid hJ3
        have hBs : W.heap.size ≤ W3.heap.size := hBW.size
        have e3 : W3.cell? ⟨lb, 0, none⟩ = some (.slice C l.length d) := by simpa using hlb3.cell 0
        clear hJ3 hy hR hg3 hB3
        gi_wp2
        gi_loopw [7, 8, 9] (fun z _ _ wq => ∃ k : Nat, k ≤ l.length ∧ z = .int .i64 ((k : Int) - 1) ∧ Own intCell 1 2 wq W.heap.size (.slice (some ⟨W.heap.size, 0, none⟩) l.length l.length) (resetR gp l x k) ∧ Hid (ResetFrom gp l x k) ∧ Hid (W3.grownBy wq (some W.heap.size))) (fun z _ _ _ => (intOf z + 1).toNat)
        case atStart =>
          have h9 := reset_start (gp := gp) hxl.out
          exact ⟨l.length, Nat.le_refl _, rfl, by rw [h9.2]; exact hO3, h9.1, World.grownBy.refl _ _⟩
        case round =>
          clear hO3
          obtain ⟨k, hk, rfl, hO3, hRF, hG3⟩ := hrel
          have hBq : Below n₀ W wr := hBW.trans (gr_to hG3.out (Nat.le_trans hn hBs) hn)
          cases k with
          | zero =>
            have hend := Lib.hid (lexR_last hrn.out hp.out (by have := hRF.out; unfold ResetFrom at this; simpa using this))
            have hJ4 := Lib.hid (hJH.out _ _ _ _ hJ3H.out hG3.out (fun r e => by cases e; rfl))
            gi_wp2
            refine bodyPost_ret (results_none rfl _ _ _) rfl ?_
            exact ⟨⟨_, rfl⟩, _, hend.out, hJ4.out⟩
          | succ k =>
            have hlt : k < l.length := hk
            obtain ⟨q, hq1, hql⟩ := (bufOk_at hbuf.out).2 k hlt
            obtain ⟨b, off, hA1, hb, d0, d1, d2, d3⟩ := places_at (h0.below hBq (Nat.le_refl _)) q hql
            obtain ⟨b2, off2, hC1, hb2, c0⟩ := ints_at (h1.below hBq (Nat.le_refl _)) k hlt
            subst hA1
            subst hC1
            rw [hq1] at c0
            obtain ⟨j0, j1⟩ := (hgb3.grown hG3.out (fun e => by cases e; omega)).c2
            have e4 : wr.cell? ⟨lb, 0, none⟩ = some (.slice (some ⟨b2, off2, none⟩) l.length d) := by simpa using (hlb3.grown hG3.out (fun e => by cases e; omega)).cell 0
            have hpp := okGraph_place hok.out (List.getElem_mem hql)
            have ht := hpp.2.2.2
            have hloq : Hid (max 1 gp[q].tokens = roomLo gp l[k]) := by show _ = _; unfold roomLo; rw [hq1, plAt_nat _ _ hql]
            have hhiq : Hid (min 8 (gp[q].tokens + 5) = roomHi gp l[k]) := by show _ = _; unfold roomHi; rw [hq1, plAt_nat _ _ hql]
            have hbd : 1 ≤ roomLo gp l[k] ∧ roomHi gp l[k] ≤ 8 := by rw [← hloq.out, ← hhiq.out]; omega
            obtain ⟨lo, hlod⟩ : ∃ lo, roomLo gp l[k] = lo := ⟨_, rfl⟩
            obtain ⟨hi, hhid⟩ : ∃ hi, roomHi gp l[k] = hi := ⟨_, rfl⟩
            rw [hlod] at hloq hbd
            rw [hhid] at hhiq hbd
            have hlodH := Lib.hid hlod
            have hhidH := Lib.hid hhid
            have hkx : k < x.length := by rw [hxl.out]; exact hlt
            have hget := reset_get (gp := gp) hxl.out hlt
            have hlen := Lib.hid hget.1
            obtain ⟨_, hgl, hfz, c2⟩ := own_ints_at hO3 k (by rw [hlen.out]; exact hlt)
            rw [hget.2] at c2
            obtain ⟨xk, hxk⟩ : ∃ xk, x[k] = xk := ⟨_, rfl⟩
            rw [hxk] at c2
            have hxkH := Lib.hid hxk
            have hq0 : (0 : Int) ≤ (q : Int) := by omega
            have hq2 : (q : Int) < (gp.length : Int) := by omega
            have hk1 : (0 : Int) ≤ (k : Int) := by omega
            have hk2 : (k : Int) < (l.length : Int) := by omega
            have hz : ((k + 1 : Nat) : Int) - 1 = (k : Int) := by omega
            rw [hz]
            clear hz hq1 hlod hhid hpp hget hxk hk
            gi_wp2_with fail
            refine wpIn_wide.2 ?_
            go_region_held3 (fun w' => w'.cell? ⟨gb, 1, none⟩ = some (.slice (some ⟨b, off, none⟩) gp.length c) ∧ w'.cell? ⟨lb, 0, none⟩ = some (.slice (some ⟨b2, off2, none⟩) l.length d) ∧ w'.cell? ⟨b2, off2 + k, none⟩ = some (.int .i64 q) ∧ w'.cell? ⟨b, off + q * 4, none⟩ = some (.int .i64 gp[q].src) ∧ w'.cell? ⟨b, off + q * 4 + 1, none⟩ = some (.int .i64 gp[q].dst) ∧ w'.cell? ⟨b, off + q * 4 + 2, none⟩ = some (.int .i64 gp[q].delay) ∧ w'.cell? ⟨b, off + q * 4 + 3, none⟩ = some (.int .i64 gp[q].tokens)) (first | exact ⟨j1, e4, c0, d0, d1, d2, d3⟩ | exact ⟨j1', e4', c0', d0', d1', d2', d3'⟩ | go_keep) (first | (go_at_call 122; refine (impl_roomsOf _ _ _ _ _ ht.1 ht.2).mono ?_; rintro e w2 ⟨rfl, hB2⟩; have j1' := cell_keep (w := wr.drew) j1 hB2; have e4' := cell_keep (w := wr.drew) e4 hB2; have c0' := cell_keep (w := wr.drew) c0 hB2; have d0' := cell_keep (w := wr.drew) d0 hB2; have d1' := cell_keep (w := wr.drew) d1 hB2; have d2' := cell_keep (w := wr.drew) d2 hB2; have d3' := cell_keep (w := wr.drew) d3 hB2; rw [hloq.out, hhiq.out]))
            have hD : Below wr.heap.size wr w2 := (Below.drew (Below.refl _ wr)).trans hB2
            have hO4 := hO3.now hD
            have hG4 := gr_trans hG3.out (gr_below (some W.heap.size) hD)
            obtain ⟨_, hgl4, hfz4, c4⟩ := own_ints_at hO4 k (by rw [hlen.out]; exact hlt)
            replace c2 := cell_keep c2 hD
            clear c4 hO3 hG3 hgl hfz j0 j1 e4 c0 d0 d1 d2 d3 j1' e4' c0' d0' d1' d2' d3' hloq hhiq hB2
            by_cases hx : xk < hi
            · have hsuc := reset_grow (gp := gp) hxl.out hlt hRF.out (by rw [hxkH.out, hhidH.out]; exact hx)
              rw [hxkH.out] at hsuc
              have hO5 := hO4.set1 k (by rw [hlen.out]; exact hlt) (xk + 1)
              have hG5 := gr_trans hG4 (gr_set w2 W.heap.size k (.int .i64 (xk + 1)))
              obtain ⟨y, hy⟩ : ∃ y, (resetR gp l x (k + 1)).set k (xk + 1) = y := ⟨_, rfl⟩
              rw [hy] at hsuc hO5
              have hnext := lexR_next hrn.out hp.out hsuc
              have hJ5 := Lib.hid (hJH.out _ _ _ _ hJ3H.out hG5 (fun r e => by cases e; rfl))
              have hB5 := hBW.trans (gr_to hG5 (Nat.le_trans hn hBs) hn)
              have hnextH := Lib.hid hnext
              have hO5H := Lib.hid hO5
              have hG5H := Lib.hid hG5
              have hxb : -1000 ≤ xk := by
                have := (lexR_mem.1 (hp.out.subset (by simp) : x ∈ lexR gp l)).2 k hlt hkx
                rw [hxkH.out, hlodH.out] at this
                omega
              clear hy hsuc hnext hO5 hO4 hG4 hG5
              gi_wp2
              go_roundw
              case rel => exact ⟨pre ++ [x], y, hnextH.out, hO5H.out, hJ5.out, hB5, hgb3.grown hG5H.out (fun e => by cases e; omega), hlb3.grown hG5H.out (fun e => by cases e; omega)⟩
              case measure =>
                rw [readL_of hO5H.out.lst, hmu.out, (leftR_eq hnextH.out).1, (leftR_eq hp.out).1]
                have h8 := (leftR_eq hnextH.out).2
                simp at h8 ⊢
                omega
            · have hst := reset_step (gp := gp) hxl.out hlt hRF.out (by rw [hxkH.out, hhidH.out]; exact hx)
              have hO5 := hO4.set1 k (by rw [hlen.out]; exact hlt) lo
              rw [hlodH.out] at hst
              rw [← hst.2] at hO5
              have hRF5 := Lib.hid hst.1
              have hG5 := Lib.hid (gr_trans hG4 (gr_set w2 W.heap.size k (.int .i64 lo)))
              have hO5H := Lib.hid hO5
              clear hst hO5 hO4 hG4
              gi_wp2
              go_roundw
              case rel => exact ⟨k, by omega, rfl, hO5H.out, hRF5.out, hG5.out⟩
              case measure => simp [intOf] <;> omega
theorem rets2 {fn : Func} {t u : Tmp} (h : fn.results = #[.tmp t, .tmp u]) {P : Program} {n : Nat} {R : Ending → World → Prop} {a : Act} {w : World} (hd : a.defers = [])
    (hR : R (.returned (.tuple #[a.tmps.getD t undef, a.tmps.getD u undef])) w) : bodyPostM Fence.wide n P fn R .ret a w := by
  show LeavesInM _ _ _ _ _ _ a.defers _ _
  rw [hd]
  exact ⟨_, results_tmp2 h _ _ _, hR⟩
theorem rets2D {fn : Func} {t u : Tmp} {D : Nat} (h : fn.results = #[.tmp t, .tmp u]) {P : Program} {n : Nat} {R : Ending → World → Prop} {a : Act} {w : World} (hd : a.defers = [{ target := .collected D, args := #[] }]) (hK : w.heap[D]? = some (.deferred (some [])))
    (hR : R (.returned (.tuple #[a.tmps.getD t undef, a.tmps.getD u undef])) (w.putObj D (.deferred none))) : bodyPostM Fence.wide n P fn R .ret a w := by
  show LeavesInM _ _ _ _ _ _ a.defers _ _
  rw [hd]
  refine ⟨by simp, .inl ⟨D, _, rfl, run_takeDeferred hK, ?_⟩⟩
  exact ⟨_, results_tmp2 h _ _ _, hR⟩
set_option maxHeartbeats 8000000 in
set_option maxRecDepth 100000 in
theorem impl_LeastRooms (v : Value) (ge : Int) (gp : List Place) (u : Value) (l : List Int) (a b : Int) (w : World) (h0 : Lst Place.cells 4 w w.heap.size v gp) (h1 : Lst intCell 1 w w.heap.size u l) :
    Calls Try.prog 16 #[.agg #[.int .i64 ge, v], u, .agg #[.int .i64 a, .int .i64 b]] w (RetOwnI intCell 1 2 w (leastRF ge gp l a b).1 (leastRF ge gp l a b).2) := by
  obtain ⟨A, c, rfl⟩ := h0.shape
  obtain ⟨C, d, rfl⟩ := h1.shape
  refine (callsIn_wide (n := 5)).1 ?_
  refine callsIn_of_wp_marks Try.func16 rfl trivial ?_ rfl
  simp only [Try.ntmps16, List.size_toArray, List.length_cons, List.length_nil, Nat.reduceAdd, Nat.reduceSub, Array.replicate_succ, Array.replicate_zero, List.push_toArray, List.append_toArray, List.nil_append, List.cons_append]
  refine wpIn_wide.2 ?_
  go_wp2_with fail
  have hW : Below w.heap.size w (((w.alloc (.cells #[.int .i64 ge, .slice A gp.length c] 32)).alloc (.cells #[.slice C l.length d] 38)).alloc (.cells #[.int .i64 a, .int .i64 b] 34)) := ((((Below.refl _ _).alloc (Nat.le_refl _) _).alloc (by first | (simp; done) | (simp; omega)) _).alloc (by first | (simp; done) | (simp; omega)) _); have hb0 : Blk (((w.alloc (.cells #[.int .i64 ge, .slice A gp.length c] 32)).alloc (.cells #[.slice C l.length d] 38)).alloc (.cells #[.int .i64 a, .int .i64 b] 34)) (w.heap.size) 32 #[.int .i64 ge, .slice A gp.length c] := (((Blk.newAt w _ (by first | rfl | (simp; done) | (simp; omega))).alloc _).alloc _); have hb1 : Blk (((w.alloc (.cells #[.int .i64 ge, .slice A gp.length c] 32)).alloc (.cells #[.slice C l.length d] 38)).alloc (.cells #[.int .i64 a, .int .i64 b] 34)) (w.heap.size + 1) 38 #[.slice C l.length d] := ((Blk.newAt (w.alloc (.cells #[.int .i64 ge, .slice A gp.length c] 32)) _ (by first | rfl | (simp; done) | (simp; omega))).alloc _); have hb2 : Blk (((w.alloc (.cells #[.int .i64 ge, .slice A gp.length c] 32)).alloc (.cells #[.slice C l.length d] 38)).alloc (.cells #[.int .i64 a, .int .i64 b] 34)) (w.heap.size + 1 + 1) 34 #[.int .i64 a, .int .i64 b] := (Blk.newAt ((w.alloc (.cells #[.int .i64 ge, .slice A gp.length c] 32)).alloc (.cells #[.slice C l.length d] 38)) _ (by first | rfl | (simp; done) | (simp; omega))); replace h0 := h0.now hW; replace h1 := h1.now hW; have hsW : w.heap.size + 3 = (((w.alloc (.cells #[.int .i64 ge, .slice A gp.length c] 32)).alloc (.cells #[.slice C l.length d] 38)).alloc (.cells #[.int .i64 a, .int .i64 b] 34)).heap.size := (by first | rfl | (simp; done) | (simp; omega)); generalize (((w.alloc (.cells #[.int .i64 ge, .slice A gp.length c] 32)).alloc (.cells #[.slice C l.length d] 38)).alloc (.cells #[.int .i64 a, .int .i64 b] 34)) = W at *; replace hsW := Lib.hid hsW
  refine (impl_IsEventGraph _ ge gp _ h0).mono ?_
  rintro e w1 ⟨rfl, hB⟩
  replace hW := hW.trans (hB.mono hW.size); replace h0 := h0.now hB; replace h1 := h1.now hB; replace hb0 := hb0.now hB; replace hb1 := hb1.now hB; replace hb2 := hb2.now hB
  clear hB
  obtain ⟨k0, k1⟩ := hb0.c2
  obtain ⟨r0, r1⟩ := hb2.c2
  have e0 : w1.cell? ⟨w.heap.size + 1, 0, none⟩ = some (.slice C l.length d) := by simpa using hb1.cell 0
  cases hg : okGraph ge gp
  · have hE := Lib.hid (leastRF_bad (l := l) (a := a) (b := b) (.inl hg))
    clear hg
    go_wp2
    refine rets2 rfl rfl ?_
    exact RetOwnI.of hE.out ⟨_, rfl, Own.nil, hW⟩
  · have hgH := Lib.hid hg
    clear hg
    go_wp2_with fail
    clear k0 k1 r0 r1 e0
    refine (impl_IsRatio a b _).mono ?_
    rintro e w2 ⟨rfl, hB⟩
    replace hW := hW.trans (hB.mono hW.size); replace h0 := h0.now hB; replace h1 := h1.now hB; replace hb0 := hb0.now hB; replace hb1 := hb1.now hB; replace hb2 := hb2.now hB
    clear hB
    obtain ⟨k0, k1⟩ := hb0.c2
    obtain ⟨r0, r1⟩ := hb2.c2
    have e0 : w2.cell? ⟨w.heap.size + 1, 0, none⟩ = some (.slice C l.length d) := by simpa using hb1.cell 0
    cases hq : ratioOk a b
    · have hE := Lib.hid (leastRF_bad (ge := ge) (gp := gp) (l := l) (.inr hq))
      clear hq
      go_wp2
      refine rets2 rfl rfl ?_
      exact RetOwnI.of hE.out ⟨_, rfl, Own.nil, hW⟩
    · have hqH := Lib.hid hq
      have hrl := ratioOk_le hq
      clear hq
      go_wp2_with fail
      clear k0 k1 r0 r1 e0
      refine (impl_areBuffers _ ge gp _ l _ h0 h1).mono ?_
      rintro e w3 ⟨rfl, hB⟩
      replace hW := hW.trans (hB.mono hW.size); replace h0 := h0.now hB; replace h1 := h1.now hB; replace hb0 := hb0.now hB; replace hb1 := hb1.now hB; replace hb2 := hb2.now hB
      clear hB
      obtain ⟨k0, k1⟩ := hb0.c2
      obtain ⟨r0, r1⟩ := hb2.c2
      have e0 : w3.cell? ⟨w.heap.size + 1, 0, none⟩ = some (.slice C l.length d) := by simpa using hb1.cell 0
      have l0 := hb0.lt
      have l1 := hb1.lt
      have l2 := hb2.lt
      cases hbf : bufOk gp.length l
      · have hE := Lib.hid (leastRF_buf (l := l) hgH.out hqH.out hbf)
        clear hbf
        go_wp2
        refine rets2 rfl rfl ?_
        exact RetOwnI.of hE.out ⟨_, rfl, Own.nil, hW⟩
      · have hll := (bufOk_at hbf).1
        have hgl := okGraph_len hgH.out
        have hbfH := Lib.hid hbf
        clear hbf
        by_cases h30 : 30 < gp.length + l.length
        · have hE := Lib.hid (leastRF_many (l := l) hgH.out hqH.out hbfH.out h30)
          have h30' : decide ((30 : Int) < (gp.length : Int) + (l.length : Int)) = true := decide_eq_true (by omega)
          clear h30
          go_wp2
          refine rets2 rfl rfl ?_
          exact RetOwnI.of hE.out ⟨_, rfl, Own.nil, hW⟩
        · have h30' : decide ((30 : Int) < (gp.length : Int) + (l.length : Int)) = false := decide_eq_false (by omega)
          have hge := okGraph_ev hgH.out
          obtain ⟨n, rfl⟩ := Int.eq_ofNat_of_zero_le (show 0 ≤ ge by omega)
          obtain ⟨suf, hsuf⟩ : ∃ suf, sufO n gp l a b = suf := ⟨_, rfl⟩
          obtain ⟨best, hbest⟩ : ∃ best, leastF suf gp l = best := ⟨_, rfl⟩
          have hE := Lib.hid (leastRF_ok (best := best) hgH.out hqH.out hbfH.out h30 (by rw [hsuf]; exact hbest))
          have hsufH := Lib.hid hsuf
          have hbestH := Lib.hid hbest
          have h30q : gp.length + l.length ≤ 30 := by omega
          clear hsuf hbest h30
          have hA : Below w3.heap.size w3 (w3.alloc (.cells #[.slice none 0 0] 38)) := (Below.refl _ _).alloc (Nat.le_refl _) _
          have hbb := Blk.newAt w3 (t := 38) (cs := #[.slice none 0 0]) _ rfl
          have hsz4 : (w3.alloc (.cells #[.slice none 0 0] 38)).heap.size = w3.heap.size + 1 := by simp
          go_wp2_with fail
          refine (impl_roomLists A C _ c _ d n _).mono ?_
          rintro e w5 ⟨rfl, hgb, hlb, hs5, hB5⟩
          rw [hsz4] at hgb hlb hs5
          have hbb5 := hbb.now hB5
          have hB35 := hA.trans (hB5.mono hA.size)
          have hs3 : w3.heap.size + 3 ≤ w5.heap.size := by omega
          clear hs5 hbb hA hsz4 hB5 k0 k1 r0 r1 e0 l0 l1 l2
          go_wp2_with fail
          refine (wpIn_wide (n := 5)).1 ?_
          refine wpIn_rangeFunc_row (gf := 121) (lb := #[.pointer (some ⟨w3.heap.size + 1 + 1, 0, none⟩), .pointer (some ⟨w3.heap.size + 1, 0, none⟩)]) rfl (run_enter Try.func121 (by kernel_rfl) (by kernel_rfl))
            (fun _ => #[.slice (some ⟨w5.heap.size + 2, 0, none⟩) l.length l.length]) (fun _ => rfl) (HasR (w5.heap.size + 2) gp l) w3.heap.size (by omega)
            (fun k => k = w3.heap.size + 1 ∨ k = w3.heap.size + 1 + 1 ∨ k = w5.heap.size + 2) (by omega) (fun xs => xs = lexR gp l)
            (fun pre x W l0 o o' hl _ h => ⟨h.1, own_same h.2 (World.putObj_heap_other (fun e => hl e.symm))⟩)
            (fun J W hsz hbW hJ hY hJ0 => impl_roomLists_1 n gp l A C c d (w3.heap.size + 1) (w3.heap.size + 1 + 1) (w5.heap.size + 2) w3.heap.size (w5.heap.size + 1) 4 W hgH hbfH (hgb.now hbW) (hlb.now hbW)
              (h0.below (hB35.trans (hbW.mono hB35.size)) (Nat.le_refl _)) (h1.below (hB35.trans (hbW.mono hB35.size)) (Nat.le_refl _)) hsz (by omega) J hJ hY hJ0)
            (fun pre W => ∃ bv, Blk W w3.heap.size 38 #[bv] ∧ Own intCell 1 2 W w3.heap.size bv (pre.foldl (stepB suf) []) ∧ bv.ownBlock ≠ some (w5.heap.size + 2) ∧ Hid (pre.foldl (stepB suf) [] = [] → bv = .slice none 0 0) ∧ Below w3.heap.size w3 W)
            ?bears ?start ?a1 ?assign ?body (fun pre x W h => (h.2.lt _ rfl).2) ?done
          case bears =>
            rintro pre X Y row ⟨bv, hbx, hO, hne, hnil, hB⟩ hg hr
            have hlt3 : w3.heap.size < w5.heap.size := by omega
            refine ⟨bv, hbx.grown hg (fun e => by have := (hr _ e.symm).1; omega), own_bears hO hg (fun r e => ?_), hne, hnil, hB.grown hg hB.size (fun r e => by have := (hr _ e).1; omega)⟩
            rcases (hr r e).2 with h | ⟨o, h1, h2⟩
            · exact .inl (by rw [h]; exact hne)
            · exact .inr ⟨o, h1, h2⟩
          case start => exact ⟨_, hbb5, Own.nil, by simp [Value.ownBlock], fun _ => rfl, hB35⟩
          case assign =>
            intro l0 x W K hK
            gi_wp2
            exact hK
          case body =>
            intro l0 pre x W hltg hI hx
            obtain ⟨bv, hbx, hO, hne, hnil, hB⟩ := hI
            have hBo : BestOk gp l (pre.foldl (stepB suf) []) := foldB_ok (.inl rfl) (fun r hr => lexR_ok.1 (hx.1.out.subset (by simp [hr])))
            have hxr : roomsOk gp l x = true := lexR_ok.1 (hx.1.out.subset (by simp))
            have hskip := skipB_eq (suf := suf) hx.1.out
            have hnew := fold_snoc suf pre x
            obtain ⟨bs, hbs⟩ : ∃ bs, pre.foldl (stepB suf) [] = bs := ⟨_, rfl⟩
            rw [hbs] at hO hnil hBo hskip hnew
            clear hbs
            have hxrH := Lib.hid hxr
            have hBoH := Lib.hid hBo
            have hnewH := Lib.hid hnew
            have hOx := hx.2
            have hxl := Lib.hid (roomsOk_len hxr)
            have hx1 := (show BestOk gp l x from .inr hxr).small hbfH.out
            have hx1H := Lib.hid hx1.1
            have hx3 := hx1.2
            have hbo1 := hBo.small hbfH.out
            have hb1H := Lib.hid hbo1.1
            have hb3 := hbo1.2
            have hBd : Below W.heap.size W W.drew := Below.drew (Below.refl _ W)
            obtain ⟨hb0W, hb1W, hb2W⟩ : Blk W w.heap.size 32 #[.int .i64 (n : Int), .slice A gp.length c] ∧ Blk W (w.heap.size + 1) 38 #[.slice C l.length d] ∧ Blk W (w.heap.size + 1 + 1) 34 #[.int .i64 a, .int .i64 b] := ⟨hb0.now hB, hb1.now hB, hb2.now hB⟩
            have h0W := h0.now hB
            have h1W := h1.now hB
            clear hnew hBo hxr hx1 hbo1
            obtain ⟨gq, hgq⟩ : ∃ gq, gp ++ backs gp l x l.length = gq := ⟨_, rfl⟩
            have hgqok := Lib.hid (lim_ok hgH.out hbfH.out hxrH.out h30q)
            rw [hgq] at hgqok
            obtain ⟨sb, hsb⟩ : ∃ sb, sufB n gq a b = sb := ⟨_, rfl⟩
            have hsxH : Hid (suf x = sb) := by show _ = _; rw [← hsufH.out]; unfold sufO; rw [hgq, hsb]
            have hgqH := Lib.hid hgq
            have hsbH := Lib.hid hsb
            clear hgq hsb
            by_cases hbe : bs = []
            · have hbv := hnil.out hbe
              subst hbv
              have z0 : W.drew.cell? ⟨w3.heap.size, 0, none⟩ = some (.slice none 0 0) := by simpa using hbx.cell 0
              have hbet : Hid (bs = [] ∨ addL x < addL bs) := .inl hbe
              clear hskip hbe hnil
              gi_wp2_with fail
              refine region_round_H (S := fun w' => w'.cell? ⟨w3.heap.size, 0, none⟩ = some (.slice none 0 0)) (by kernel_rfl) (fun ⟨_, _, h⟩ => by cases h.1) (by kernel_rfl) z0 (fun hH => ?_)
              refine tkH 0 (v := ?_) rfl (fun _ _ _ h => h) (Or.inl ⟨by rfl, ?_⟩) hH ?_
              rotate_left
              · intro w9 hSw
                try dsimp only at hSw
                obtain s0 := hSw
                go_simp
                try with_reducible rfl
              try simp only [Act.put, List.setIfInBounds_toArray, List.set_cons_zero, List.set_cons_succ]
              refine tkH 1 (v := ?_) rfl (fun _ _ _ h => h) (Or.inl ⟨by rfl, ?_⟩) hH ?_
              rotate_left
              · intro w9 hSw
                try dsimp only at hSw
                obtain s0 := hSw
                go_simp
                try with_reducible rfl
              try simp only [Act.put, List.setIfInBounds_toArray, List.set_cons_zero, List.set_cons_succ]
              refine tkH 2 (v := ?_) rfl (fun _ _ _ h => h) (Or.inl ⟨by rfl, ?_⟩) hH ?_
              rotate_left
              · intro w9 hSw
                try dsimp only at hSw
                obtain s0 := hSw
                go_simp
                try with_reducible rfl
              try simp only [Act.put, List.setIfInBounds_toArray, List.set_cons_zero, List.set_cons_succ]
              refine tkH 3 (v := undef) rfl (fun _ _ _ h => h) (Or.inr ⟨by rfl, rfl⟩) hH ?_
              try simp only [Act.put, List.setIfInBounds_toArray, List.set_cons_zero, List.set_cons_succ]
              refine tkH 4 (v := undef) rfl (fun _ _ _ h => h) (Or.inr ⟨by rfl, rfl⟩) hH ?_
              try simp only [Act.put, List.setIfInBounds_toArray, List.set_cons_zero, List.set_cons_succ]
              refine tkH 5 (v := undef) rfl (fun _ _ _ h => h) (Or.inr ⟨by rfl, rfl⟩) hH ?_
              try simp only [Act.put, List.setIfInBounds_toArray, List.set_cons_zero, List.set_cons_succ]
              refine tkH 6 (v := undef) rfl (fun _ _ _ h => h) (Or.inr ⟨by rfl, rfl⟩) hH ?_
              try simp only [Act.put, List.setIfInBounds_toArray, List.set_cons_zero, List.set_cons_succ]
              refine tkH 7 (v := undef) rfl (fun _ _ _ h => h) (Or.inr ⟨by rfl, rfl⟩) hH ?_
              try simp only [Act.put, List.setIfInBounds_toArray, List.set_cons_zero, List.set_cons_succ]
              refine tkH 8 (v := undef) rfl (fun _ _ _ h => h) (Or.inr ⟨by rfl, rfl⟩) hH ?_
              try simp only [Act.put, List.setIfInBounds_toArray, List.set_cons_zero, List.set_cons_succ]
              refine tkH 9 (v := undef) rfl (fun _ _ _ h => h) (Or.inr ⟨by rfl, rfl⟩) hH ?_
              try simp only [Act.put, List.setIfInBounds_toArray, List.set_cons_zero, List.set_cons_succ]
              refine tkH 10 (v := undef) rfl (fun _ _ _ h => h) (Or.inr ⟨by rfl, rfl⟩) hH ?_
              try simp only [Act.put, List.setIfInBounds_toArray, List.set_cons_zero, List.set_cons_succ]
              refine tkH 11 (v := undef) rfl (fun _ _ _ h => h) (Or.inr ⟨by rfl, rfl⟩) hH ?_
              try simp only [Act.put, List.setIfInBounds_toArray, List.set_cons_zero, List.set_cons_succ]
              refine tkH 12 (v := undef) rfl (fun _ _ _ h => h) (Or.inr ⟨by rfl, rfl⟩) hH ?_
              try simp only [Act.put, List.setIfInBounds_toArray, List.set_cons_zero, List.set_cons_succ]
              refine tkH 13 (v := undef) rfl (fun _ _ _ h => h) (Or.inr ⟨by rfl, rfl⟩) hH ?_
              try simp only [Act.put, List.setIfInBounds_toArray, List.set_cons_zero, List.set_cons_succ]
              refine tkH 14 (v := ?_) rfl (fun _ _ _ h => h) (Or.inl ⟨by rfl, ?_⟩) hH ?_
              rotate_left
              · intro w9 hSw
                try dsimp only at hSw
                obtain s0 := hSw
                go_simp
                try with_reducible rfl
              try simp only [Act.put, List.setIfInBounds_toArray, List.set_cons_zero, List.set_cons_succ]
              refine wpAnyH_done (by kernel_rfl) ?_ _
              clear z0 hH
              have hV := hBd
              clear hBd
              generalize W.drew = V at hV ⊢
              have hVd : Below V.heap.size V V.drew := Below.drew (Below.refl _ V)
              have hVD := hV.trans (hVd.mono hV.size)
              obtain ⟨y0, y1⟩ := (hb0W.now hVD).c2
              have y2 : V.drew.cell? ⟨w.heap.size + 1, 0, none⟩ = some (.slice C l.length d) := by simpa using (hb1W.now hVD).cell 0
              obtain ⟨y3, y4⟩ := (hb2W.now hVD).c2
              have v0 := h0W.now hVD
              have v1 := h1W.now hVD
              have vx := (hOx.now hVD).lst
              gi_wp2_with fail
              refine region_round_H (S := fun w' => w'.cell? ⟨w.heap.size, 0, none⟩ = some (.int .i64 (n : Nat)) ∧ w'.cell? ⟨w.heap.size, 1, none⟩ = some (.slice A gp.length c) ∧ w'.cell? ⟨w.heap.size + 1, 0, none⟩ = some (.slice C l.length d) ∧ w'.cell? ⟨w.heap.size + 1 + 1, 0, none⟩ = some (.int .i64 a) ∧ w'.cell? ⟨w.heap.size + 1 + 1, 1, none⟩ = some (.int .i64 b)) (by kernel_rfl) (fun ⟨_, _, h⟩ => by cases h.1) (by kernel_rfl) ⟨y0, y1, y2, y3, y4⟩ (fun hH => ?_)
              refine tkH 0 (v := ?_) rfl (fun _ _ _ h => h) (Or.inl ⟨by rfl, ?_⟩) hH ?_
              rotate_left
              · intro w9 hSw
                try dsimp only at hSw
                obtain ⟨s0, s1, s2, s3, s4⟩ := hSw
                go_simp
                try with_reducible rfl
              try simp only [Act.put, List.setIfInBounds_toArray, List.set_cons_zero, List.set_cons_succ]
              refine tkH 1 (v := ?_) rfl (fun _ _ _ h => h) (Or.inl ⟨by rfl, ?_⟩) hH ?_
              rotate_left
              · intro w9 hSw
                try dsimp only at hSw
                obtain ⟨s0, s1, s2, s3, s4⟩ := hSw
                go_simp
                try with_reducible rfl
              try simp only [Act.put, List.setIfInBounds_toArray, List.set_cons_zero, List.set_cons_succ]
              refine tkH 2 (v := ?_) rfl (fun _ _ _ h => h) (Or.inl ⟨by rfl, ?_⟩) hH ?_
              rotate_left
              · intro w9 hSw
                try dsimp only at hSw
                obtain ⟨s0, s1, s2, s3, s4⟩ := hSw
                go_simp
                try with_reducible rfl
              try simp only [Act.put, List.setIfInBounds_toArray, List.set_cons_zero, List.set_cons_succ]
              refine tkH 4 (v := ?_) rfl (fun _ _ _ h => h) (Or.inl ⟨by rfl, ?_⟩) hH ?_
              rotate_left
              · intro w9 hSw
                try dsimp only at hSw
                obtain ⟨s0, s1, s2, s3, s4⟩ := hSw
                go_simp
                try with_reducible rfl
              try simp only [Act.put, List.setIfInBounds_toArray, List.set_cons_zero, List.set_cons_succ]
              refine wpAnyH_ready (rs := [3]) (by kernel_rfl) (by simp) ?_
              refine AllReadyH.cons rfl (fun K hK => ?_) AllReadyH.nil
              go_simp
              go_at_call 63
              refine (impl_limited _ n gp _ l _ x V.drew v0 v1 vx hgH hbfH hxrH).mono ?_
              rintro e6 w6 ⟨x6, rfl, hO6, hB6⟩
              rw [hgqH.out] at hO6
              obtain ⟨X6, cx6, rfl⟩ := hO6.shape
              have y0a := cell_keep (w := V.drew) y0 hB6
              have y1a := cell_keep (w := V.drew) y1 hB6
              have y2a := cell_keep (w := V.drew) y2 hB6
              have y3a := cell_keep (w := V.drew) y3 hB6
              have y4a := cell_keep (w := V.drew) y4 hB6
              refine hK.out _ _ ⟨y0a, y1a, y2a, y3a, y4a⟩ (fun hH => ?_)
              clear hK K
              try simp only [Act.put, List.setIfInBounds_toArray, List.set_cons_zero, List.set_cons_succ]
              refine wpAnyH_ready (rs := [5]) (by kernel_rfl) (by simp) ?_
              refine AllReadyH.cons rfl (fun K hK => ?_) AllReadyH.nil
              go_simp
              go_at_call 62
              refine (impl_suffices _ n gq a b w6 hO6.lst hgqok (by omega) (by omega)).mono ?_
              rintro e7 w7 ⟨rfl, hB7⟩
              rw [hsbH.out]
              have y0b := cell_keep (w := w6) y0a hB7
              have y1b := cell_keep (w := w6) y1a hB7
              have y2b := cell_keep (w := w6) y2a hB7
              have y3b := cell_keep (w := w6) y3a hB7
              have y4b := cell_keep (w := w6) y4a hB7
              refine hK.out _ _ ⟨y0b, y1b, y2b, y3b, y4b⟩ (fun hH => ?_)
              clear hK K
              try simp only [Act.put, List.setIfInBounds_toArray, List.set_cons_zero, List.set_cons_succ]
              refine wpAnyH_done (by kernel_rfl) ?_ _
              have hW7 : Below W.heap.size W w7 := hVD.trans ((hB6.trans (hB7.mono hB6.size)).mono hVD.size)
              clear y0 y1 y2 y3 y4 y0a y1a y2a y3a y4a y0b y1b y2b y3b y4b hH v0 v1 vx
              cases sb
              · have hn2 : Hid (List.foldl (stepB suf) [] (pre ++ [x]) = bs) := by show _ = _; rw [hnewH.out]; unfold stepB; rw [hsxH.out]; simp
                gi_wp2
                exact ⟨rfl, keepsFrom_below hW7, hW7.mono hB.size, fun k hk => hW7.block k (by omega), _, hbx.now hW7, by rw [hn2.out]; exact hO.now hW7, hne, fun _ => rfl, hB.trans (hW7.mono hB.size)⟩
              · have hn2 : Hid (List.foldl (stepB suf) [] (pre ++ [x]) = x) := by show _ = _; rw [hnewH.out]; unfold stepB; rw [if_pos ⟨hbet.out, hsxH.out⟩]
                have hx7 := (hOx.now hW7).lst
                gi_wp2_with fail
                refine ⟨trivial, (calls_round (slices_Clone_i64 _ x w7 hx7 (by omega))).mono ?_⟩
                rintro e8 w8 ⟨v8, rfl, hO8, hB8⟩
                obtain ⟨g8, c8, hv8, hg8, hg8b⟩ := own_form hO8 (by have := hxl.out; omega)
                rw [hxl.out] at hv8
                subst hv8
                have hW8 : Below W.heap.size W w8 := hW7.trans (hB8.mono hW7.size)
                have hbx8 := hbx.now hW8
                have f8 := hbx8.frozen 0
                have l8 := hbx8.lt
                have c80 : w8.cell? ⟨w3.heap.size, 0, none⟩ = some (.slice none 0 0) := by simpa using hbx8.cell 0
                have hbx9 : Blk (w8.setCell ⟨w3.heap.size, 0, none⟩ (.slice (some ⟨g8, 0, none⟩) l.length c8)) w3.heap.size 38 #[.slice (some ⟨g8, 0, none⟩) l.length c8] := by simpa using hbx8.set_ 0 (.slice (some ⟨g8, 0, none⟩) l.length c8)
                have hs7 := hW7.size
                have hO9 := own_base (base' := w3.heap.size) (own_far hO8 (p := ⟨w3.heap.size, 0, none⟩) (by simp [Value.ownBlock]; omega) (.slice (some ⟨g8, 0, none⟩) l.length c8)) (by omega)
                have hK8 := (keepsFrom_below (B := w5.heap.size) hW8).trans (KeepsFrom.of_grownBy (gr_set w8 w3.heap.size 0 (.slice (some ⟨g8, 0, none⟩) l.length c8)) (fun j e => by cases e; omega))
                have hB9 := (hW8.mono hB.size).setCell (p := ⟨w3.heap.size, 0, none⟩) (Nat.le_refl _) (.slice (some ⟨g8, 0, none⟩) l.length c8)
                have hks : ∀ k, k = w3.heap.size + 1 ∨ k = w3.heap.size + 1 + 1 ∨ k = w5.heap.size + 2 → (w8.setCell ⟨w3.heap.size, 0, none⟩ (.slice (some ⟨g8, 0, none⟩) l.length c8)).heap[k]? = W.heap[k]? := fun k hk => (Below.heap_setCell _ _ _ k (by simp; omega)).trans (hW8.block k (by omega))
                gi_wp2
                exact ⟨rfl, hK8, hB9, hks, _, hbx9, by rw [hn2.out]; exact hO9, by simp [Value.ownBlock]; omega, fun h => by rw [hn2.out] at h; have := hxl.out; rw [h] at this; simp at this; omega, hB.trans hB9⟩
            · obtain ⟨bg, bc, hv, hbg1, hbg2⟩ := own_form hO (List.length_pos_iff.2 hbe)
              subst hv
              have z0 : W.drew.cell? ⟨w3.heap.size, 0, none⟩ = some (.slice (some ⟨bg, 0, none⟩) bs.length bc) := by simpa using hbx.cell 0
              obtain ⟨ci, hci⟩ : ∃ ci, cmpI (sumI x) (sumI bs) = ci := ⟨_, rfl⟩
              obtain ⟨cl, hcl⟩ : ∃ cl, cmpL x bs = cl := ⟨_, rfl⟩
              obtain ⟨zq, hzq⟩ : ∃ zq, orI ci cl = zq := ⟨_, rfl⟩
              have hdec : decide (0 ≤ zq) = !decide (addL x < addL bs) := by
                have h9 := hskip
                unfold skipB at h9
                simp only [hbe, ne_eq, not_false_eq_true, decide_true, Bool.true_and, false_or] at h9
                rw [← h9, ← hzq, ← hci, ← hcl, sumI_addL, sumI_addL]
                rfl
              have hnn : ∀ {z : List Int}, z = bs → Hid (z = [] → Value.slice (some ⟨bg, 0, none⟩) bs.length bc = .slice none 0 0) := fun e h => absurd (e.symm.trans h) hbe
              clear hnil
              have hciH := Lib.hid hci
              have hclH := Lib.hid hcl
              have hzqH := Lib.hid hzq
              have gx := (hOx.now hBd).lst
              have gb9 := (hO.now hBd).lst
              have hZ0 : Below W.drew.heap.size W.drew (W.drew.alloc (.cells #[.int .i64 ci, .int .i64 cl] 3)) := (Below.refl _ _).alloc (Nat.le_refl _) _
              clear hci hcl hzq hskip
              by_cases hlt : addL x < addL bs
              · have hbet : Hid (bs = [] ∨ addL x < addL bs) := .inr hlt
                have q1 : decide (0 ≤ zq) = false := by rw [hdec]; simp [hlt]
                clear hdec hlt hbe
                gi_wp2_with fail
                refine region_round_H (S := fun w' => w'.cell? ⟨w3.heap.size, 0, none⟩ = some (.slice (some ⟨bg, 0, none⟩) bs.length bc)) (by kernel_rfl) (fun ⟨_, _, h⟩ => by cases h.1) (by kernel_rfl) z0 (fun hH => ?_)
                refine tkH 0 (v := ?_) rfl (fun _ _ _ h => h) (Or.inl ⟨by rfl, ?_⟩) hH ?_
                rotate_left
                · intro w9 hSw
                  try dsimp only at hSw
                  obtain s0 := hSw
                  go_simp
                  try with_reducible rfl
                try simp only [Act.put, List.setIfInBounds_toArray, List.set_cons_zero, List.set_cons_succ]
                refine tkH 1 (v := ?_) rfl (fun _ _ _ h => h) (Or.inl ⟨by rfl, ?_⟩) hH ?_
                rotate_left
                · intro w9 hSw
                  try dsimp only at hSw
                  obtain s0 := hSw
                  go_simp
                  try with_reducible rfl
                try simp only [Act.put, List.setIfInBounds_toArray, List.set_cons_zero, List.set_cons_succ]
                refine tkH 2 (v := ?_) rfl (fun _ _ _ h => h) (Or.inl ⟨by rfl, ?_⟩) hH ?_
                rotate_left
                · intro w9 hSw
                  try dsimp only at hSw
                  obtain s0 := hSw
                  go_simp
                  try with_reducible rfl
                try simp only [Act.put, List.setIfInBounds_toArray, List.set_cons_zero, List.set_cons_succ]
                refine tkH 3 (v := ?_) rfl (fun _ _ _ h => h) (Or.inl ⟨by rfl, ?_⟩) hH ?_
                rotate_left
                · intro w9 hSw
                  try dsimp only at hSw
                  obtain s0 := hSw
                  go_simp
                  try with_reducible rfl
                try simp only [Act.put, List.setIfInBounds_toArray, List.set_cons_zero, List.set_cons_succ]
                refine tkH 5 (v := ?_) rfl (fun _ _ _ h => h) (Or.inl ⟨by rfl, ?_⟩) hH ?_
                rotate_left
                · intro w9 hSw
                  try dsimp only at hSw
                  obtain s0 := hSw
                  go_simp
                  try with_reducible rfl
                try simp only [Act.put, List.setIfInBounds_toArray, List.set_cons_zero, List.set_cons_succ]
                refine tkH 8 (v := ?_) rfl (fun _ _ _ h => h) (Or.inl ⟨by rfl, ?_⟩) hH ?_
                rotate_left
                · intro w9 hSw
                  try dsimp only at hSw
                  obtain s0 := hSw
                  go_simp
                  try with_reducible rfl
                try simp only [Act.put, List.setIfInBounds_toArray, List.set_cons_zero, List.set_cons_succ]
                refine tkH 9 (v := ?_) rfl (fun _ _ _ h => h) (Or.inl ⟨by rfl, ?_⟩) hH ?_
                rotate_left
                · intro w9 hSw
                  try dsimp only at hSw
                  obtain s0 := hSw
                  go_simp
                  try with_reducible rfl
                try simp only [Act.put, List.setIfInBounds_toArray, List.set_cons_zero, List.set_cons_succ]
                refine wpAnyH_ready (rs := [4]) (by kernel_rfl) (by simp) ?_
                refine AllReadyH.cons rfl (fun K hK => ?_) AllReadyH.nil
                go_simp
                go_at_call 60
                refine (impl_total _ x W.drew gx hx1H (by omega)).mono ?_
                rintro e5 w5 ⟨rfl, rfl⟩
                refine hK.out _ _ z0 (fun hH => ?_)
                clear hK K
                try simp only [Act.put, List.setIfInBounds_toArray, List.set_cons_zero, List.set_cons_succ]
                refine wpAnyH_ready (rs := [6]) (by kernel_rfl) (by simp) ?_
                refine AllReadyH.cons rfl (fun K hK => ?_) AllReadyH.nil
                go_simp
                go_at_call 60
                refine (impl_total _ bs W.drew gb9 hb1H (by omega)).mono ?_
                rintro e5 w5 ⟨rfl, rfl⟩
                refine hK.out _ _ z0 (fun hH => ?_)
                clear hK K
                try simp only [Act.put, List.setIfInBounds_toArray, List.set_cons_zero, List.set_cons_succ]
                refine wpAnyH_ready (rs := [7]) (by kernel_rfl) (by simp) ?_
                refine AllReadyH.cons rfl (fun K hK => ?_) AllReadyH.nil
                go_simp
                go_at_call 59
                refine (cmp_Compare _ _ W.drew).mono ?_
                rintro e5 w5 ⟨rfl, rfl⟩
                rw [hciH.out]
                refine hK.out _ _ z0 (fun hH => ?_)
                clear hK K
                try simp only [Act.put, List.setIfInBounds_toArray, List.set_cons_zero, List.set_cons_succ]
                refine wpAnyH_ready (rs := [10]) (by kernel_rfl) (by simp) ?_
                refine AllReadyH.cons rfl (fun K hK => ?_) AllReadyH.nil
                go_simp
                go_at_call 61
                refine (slices_Compare_i64 _ _ x bs W.drew gx gb9).mono ?_
                rintro e5 w5 ⟨rfl, rfl⟩
                rw [hclH.out]
                refine hK.out _ _ z0 (fun hH => ?_)
                clear hK K
                try simp only [Act.put, List.setIfInBounds_toArray, List.set_cons_zero, List.set_cons_succ]
                refine wpAnyH_ready (rs := [11]) (by kernel_rfl) (by simp) ?_
                refine AllReadyH.cons rfl (fun K hK => ?_) AllReadyH.nil
                have hZ : Below W.drew.heap.size W.drew (W.drew.alloc (.cells #[.int .i64 ci, .int .i64 cl] 3)) := (Below.refl _ _).alloc (Nat.le_refl _) _
                have z0b := cell_keep z0 hZ
                have hL2 : Lst intCell 1 (W.drew.alloc (.cells #[.int .i64 ci, .int .i64 cl] 3)) (W.drew.alloc (.cells #[.int .i64 ci, .int .i64 cl] 3)).heap.size (.slice (some ⟨W.drew.heap.size, 0, none⟩) 2 2) [ci, cl] := lst_two W.drew _ ci cl
                go_simp
                refine hK.out _ _ z0b (fun hH => ?_)
                clear hK K
                try simp only [Act.put, List.setIfInBounds_toArray, List.set_cons_zero, List.set_cons_succ]
                refine wpAnyH_ready (rs := [12]) (by kernel_rfl) (by simp) ?_
                refine AllReadyH.cons rfl (fun K hK => ?_) AllReadyH.nil
                go_simp
                go_at_call 58
                refine (cmp_Or_two _ ci cl _ hL2).mono ?_
                rintro e5 w5 ⟨rfl, rfl⟩
                rw [hzqH.out]
                refine hK.out _ _ z0b (fun hH => ?_)
                clear hK K
                try simp only [Act.put, List.setIfInBounds_toArray, List.set_cons_zero, List.set_cons_succ]
                refine tkH 13 (v := ?_) rfl (fun _ _ _ h => h) (Or.inl ⟨by rfl, ?_⟩) hH ?_
                rotate_left
                · intro w9 hSw
                  try dsimp only at hSw
                  obtain s0 := hSw
                  go_simp
                  try with_reducible rfl
                try simp only [Act.put, List.setIfInBounds_toArray, List.set_cons_zero, List.set_cons_succ]
                refine tkH 14 (v := ?_) rfl (fun _ _ _ h => h) (Or.inl ⟨by rfl, ?_⟩) hH ?_
                rotate_left
                · intro w9 hSw
                  try dsimp only at hSw
                  obtain s0 := hSw
                  go_simp
                  try with_reducible rfl
                try simp only [Act.put, List.setIfInBounds_toArray, List.set_cons_zero, List.set_cons_succ]
                refine wpAnyH_done (by kernel_rfl) ?_ _
                clear z0 z0b hH hZ hL2 gx gb9
                have hV := hBd.trans (hZ0.mono hBd.size)
                clear hBd hZ0
                generalize (W.drew.alloc (.cells #[.int .i64 ci, .int .i64 cl] 3)) = V at hV ⊢
                have hVd : Below V.heap.size V V.drew := Below.drew (Below.refl _ V)
                have hVD := hV.trans (hVd.mono hV.size)
                obtain ⟨y0, y1⟩ := (hb0W.now hVD).c2
                have y2 : V.drew.cell? ⟨w.heap.size + 1, 0, none⟩ = some (.slice C l.length d) := by simpa using (hb1W.now hVD).cell 0
                obtain ⟨y3, y4⟩ := (hb2W.now hVD).c2
                have v0 := h0W.now hVD
                have v1 := h1W.now hVD
                have vx := (hOx.now hVD).lst
                gi_wp2_with fail
                refine region_round_H (S := fun w' => w'.cell? ⟨w.heap.size, 0, none⟩ = some (.int .i64 (n : Nat)) ∧ w'.cell? ⟨w.heap.size, 1, none⟩ = some (.slice A gp.length c) ∧ w'.cell? ⟨w.heap.size + 1, 0, none⟩ = some (.slice C l.length d) ∧ w'.cell? ⟨w.heap.size + 1 + 1, 0, none⟩ = some (.int .i64 a) ∧ w'.cell? ⟨w.heap.size + 1 + 1, 1, none⟩ = some (.int .i64 b)) (by kernel_rfl) (fun ⟨_, _, h⟩ => by cases h.1) (by kernel_rfl) ⟨y0, y1, y2, y3, y4⟩ (fun hH => ?_)
                refine tkH 0 (v := ?_) rfl (fun _ _ _ h => h) (Or.inl ⟨by rfl, ?_⟩) hH ?_
                rotate_left
                · intro w9 hSw
                  try dsimp only at hSw
                  obtain ⟨s0, s1, s2, s3, s4⟩ := hSw
                  go_simp
                  try with_reducible rfl
                try simp only [Act.put, List.setIfInBounds_toArray, List.set_cons_zero, List.set_cons_succ]
                refine tkH 1 (v := ?_) rfl (fun _ _ _ h => h) (Or.inl ⟨by rfl, ?_⟩) hH ?_
                rotate_left
                · intro w9 hSw
                  try dsimp only at hSw
                  obtain ⟨s0, s1, s2, s3, s4⟩ := hSw
                  go_simp
                  try with_reducible rfl
                try simp only [Act.put, List.setIfInBounds_toArray, List.set_cons_zero, List.set_cons_succ]
                refine tkH 2 (v := ?_) rfl (fun _ _ _ h => h) (Or.inl ⟨by rfl, ?_⟩) hH ?_
                rotate_left
                · intro w9 hSw
                  try dsimp only at hSw
                  obtain ⟨s0, s1, s2, s3, s4⟩ := hSw
                  go_simp
                  try with_reducible rfl
                try simp only [Act.put, List.setIfInBounds_toArray, List.set_cons_zero, List.set_cons_succ]
                refine tkH 4 (v := ?_) rfl (fun _ _ _ h => h) (Or.inl ⟨by rfl, ?_⟩) hH ?_
                rotate_left
                · intro w9 hSw
                  try dsimp only at hSw
                  obtain ⟨s0, s1, s2, s3, s4⟩ := hSw
                  go_simp
                  try with_reducible rfl
                try simp only [Act.put, List.setIfInBounds_toArray, List.set_cons_zero, List.set_cons_succ]
                refine wpAnyH_ready (rs := [3]) (by kernel_rfl) (by simp) ?_
                refine AllReadyH.cons rfl (fun K hK => ?_) AllReadyH.nil
                go_simp
                go_at_call 63
                refine (impl_limited _ n gp _ l _ x V.drew v0 v1 vx hgH hbfH hxrH).mono ?_
                rintro e6 w6 ⟨x6, rfl, hO6, hB6⟩
                rw [hgqH.out] at hO6
                obtain ⟨X6, cx6, rfl⟩ := hO6.shape
                have y0a := cell_keep (w := V.drew) y0 hB6
                have y1a := cell_keep (w := V.drew) y1 hB6
                have y2a := cell_keep (w := V.drew) y2 hB6
                have y3a := cell_keep (w := V.drew) y3 hB6
                have y4a := cell_keep (w := V.drew) y4 hB6
                refine hK.out _ _ ⟨y0a, y1a, y2a, y3a, y4a⟩ (fun hH => ?_)
                clear hK K
                try simp only [Act.put, List.setIfInBounds_toArray, List.set_cons_zero, List.set_cons_succ]
                refine wpAnyH_ready (rs := [5]) (by kernel_rfl) (by simp) ?_
                refine AllReadyH.cons rfl (fun K hK => ?_) AllReadyH.nil
                go_simp
                go_at_call 62
                refine (impl_suffices _ n gq a b w6 hO6.lst hgqok (by omega) (by omega)).mono ?_
                rintro e7 w7 ⟨rfl, hB7⟩
                rw [hsbH.out]
                have y0b := cell_keep (w := w6) y0a hB7
                have y1b := cell_keep (w := w6) y1a hB7
                have y2b := cell_keep (w := w6) y2a hB7
                have y3b := cell_keep (w := w6) y3a hB7
                have y4b := cell_keep (w := w6) y4a hB7
                refine hK.out _ _ ⟨y0b, y1b, y2b, y3b, y4b⟩ (fun hH => ?_)
                clear hK K
                try simp only [Act.put, List.setIfInBounds_toArray, List.set_cons_zero, List.set_cons_succ]
                refine wpAnyH_done (by kernel_rfl) ?_ _
                have hW7 : Below W.heap.size W w7 := hVD.trans ((hB6.trans (hB7.mono hB6.size)).mono hVD.size)
                clear y0 y1 y2 y3 y4 y0a y1a y2a y3a y4a y0b y1b y2b y3b y4b hH v0 v1 vx
                cases sb
                · have hn2 : Hid (List.foldl (stepB suf) [] (pre ++ [x]) = bs) := by show _ = _; rw [hnewH.out]; unfold stepB; rw [hsxH.out]; simp
                  gi_wp2
                  exact ⟨rfl, keepsFrom_below hW7, hW7.mono hB.size, fun k hk => hW7.block k (by omega), _, hbx.now hW7, by rw [hn2.out]; exact hO.now hW7, hne, hnn hn2.out, hB.trans (hW7.mono hB.size)⟩
                · have hn2 : Hid (List.foldl (stepB suf) [] (pre ++ [x]) = x) := by show _ = _; rw [hnewH.out]; unfold stepB; rw [if_pos ⟨hbet.out, hsxH.out⟩]
                  have hx7 := (hOx.now hW7).lst
                  gi_wp2_with fail
                  refine ⟨trivial, (calls_round (slices_Clone_i64 _ x w7 hx7 (by omega))).mono ?_⟩
                  rintro e8 w8 ⟨v8, rfl, hO8, hB8⟩
                  obtain ⟨g8, c8, hv8, hg8, hg8b⟩ := own_form hO8 (by have := hxl.out; omega)
                  rw [hxl.out] at hv8
                  subst hv8
                  have hW8 : Below W.heap.size W w8 := hW7.trans (hB8.mono hW7.size)
                  have hbx8 := hbx.now hW8
                  have f8 := hbx8.frozen 0
                  have l8 := hbx8.lt
                  have c80 : w8.cell? ⟨w3.heap.size, 0, none⟩ = some (.slice (some ⟨bg, 0, none⟩) bs.length bc) := by simpa using hbx8.cell 0
                  have hbx9 : Blk (w8.setCell ⟨w3.heap.size, 0, none⟩ (.slice (some ⟨g8, 0, none⟩) l.length c8)) w3.heap.size 38 #[.slice (some ⟨g8, 0, none⟩) l.length c8] := by simpa using hbx8.set_ 0 (.slice (some ⟨g8, 0, none⟩) l.length c8)
                  have hs7 := hW7.size
                  have hO9 := own_base (base' := w3.heap.size) (own_far hO8 (p := ⟨w3.heap.size, 0, none⟩) (by simp [Value.ownBlock]; omega) (.slice (some ⟨g8, 0, none⟩) l.length c8)) (by omega)
                  have hK8 := (keepsFrom_below (B := w5.heap.size) hW8).trans (KeepsFrom.of_grownBy (gr_set w8 w3.heap.size 0 (.slice (some ⟨g8, 0, none⟩) l.length c8)) (fun j e => by cases e; omega))
                  have hB9 := (hW8.mono hB.size).setCell (p := ⟨w3.heap.size, 0, none⟩) (Nat.le_refl _) (.slice (some ⟨g8, 0, none⟩) l.length c8)
                  have hks : ∀ k, k = w3.heap.size + 1 ∨ k = w3.heap.size + 1 + 1 ∨ k = w5.heap.size + 2 → (w8.setCell ⟨w3.heap.size, 0, none⟩ (.slice (some ⟨g8, 0, none⟩) l.length c8)).heap[k]? = W.heap[k]? := fun k hk => (Below.heap_setCell _ _ _ k (by simp; omega)).trans (hW8.block k (by omega))
                  gi_wp2
                  exact ⟨rfl, hK8, hB9, hks, _, hbx9, by rw [hn2.out]; exact hO9, by simp [Value.ownBlock]; omega, fun h => by rw [hn2.out] at h; have := hxl.out; rw [h] at this; simp at this; omega, hB.trans hB9⟩
              · have hn2 : Hid (List.foldl (stepB suf) [] (pre ++ [x]) = bs) := by
                  show _ = _
                  rw [hnewH.out]
                  unfold stepB
                  rw [if_neg]
                  rintro ⟨h9 | h9, _⟩
                  · exact hbe h9
                  · exact hlt h9
                have q1 : decide (0 ≤ zq) = true := by rw [hdec]; simp [hlt]
                clear hdec hlt hbe
                gi_wp2_with fail
                refine region_round_H (S := fun w' => w'.cell? ⟨w3.heap.size, 0, none⟩ = some (.slice (some ⟨bg, 0, none⟩) bs.length bc)) (by kernel_rfl) (fun ⟨_, _, h⟩ => by cases h.1) (by kernel_rfl) z0 (fun hH => ?_)
                refine tkH 0 (v := ?_) rfl (fun _ _ _ h => h) (Or.inl ⟨by rfl, ?_⟩) hH ?_
                rotate_left
                · intro w9 hSw
                  try dsimp only at hSw
                  obtain s0 := hSw
                  go_simp
                  try with_reducible rfl
                try simp only [Act.put, List.setIfInBounds_toArray, List.set_cons_zero, List.set_cons_succ]
                refine tkH 1 (v := ?_) rfl (fun _ _ _ h => h) (Or.inl ⟨by rfl, ?_⟩) hH ?_
                rotate_left
                · intro w9 hSw
                  try dsimp only at hSw
                  obtain s0 := hSw
                  go_simp
                  try with_reducible rfl
                try simp only [Act.put, List.setIfInBounds_toArray, List.set_cons_zero, List.set_cons_succ]
                refine tkH 2 (v := ?_) rfl (fun _ _ _ h => h) (Or.inl ⟨by rfl, ?_⟩) hH ?_
                rotate_left
                · intro w9 hSw
                  try dsimp only at hSw
                  obtain s0 := hSw
                  go_simp
                  try with_reducible rfl
                try simp only [Act.put, List.setIfInBounds_toArray, List.set_cons_zero, List.set_cons_succ]
                refine tkH 3 (v := ?_) rfl (fun _ _ _ h => h) (Or.inl ⟨by rfl, ?_⟩) hH ?_
                rotate_left
                · intro w9 hSw
                  try dsimp only at hSw
                  obtain s0 := hSw
                  go_simp
                  try with_reducible rfl
                try simp only [Act.put, List.setIfInBounds_toArray, List.set_cons_zero, List.set_cons_succ]
                refine tkH 5 (v := ?_) rfl (fun _ _ _ h => h) (Or.inl ⟨by rfl, ?_⟩) hH ?_
                rotate_left
                · intro w9 hSw
                  try dsimp only at hSw
                  obtain s0 := hSw
                  go_simp
                  try with_reducible rfl
                try simp only [Act.put, List.setIfInBounds_toArray, List.set_cons_zero, List.set_cons_succ]
                refine tkH 8 (v := ?_) rfl (fun _ _ _ h => h) (Or.inl ⟨by rfl, ?_⟩) hH ?_
                rotate_left
                · intro w9 hSw
                  try dsimp only at hSw
                  obtain s0 := hSw
                  go_simp
                  try with_reducible rfl
                try simp only [Act.put, List.setIfInBounds_toArray, List.set_cons_zero, List.set_cons_succ]
                refine tkH 9 (v := ?_) rfl (fun _ _ _ h => h) (Or.inl ⟨by rfl, ?_⟩) hH ?_
                rotate_left
                · intro w9 hSw
                  try dsimp only at hSw
                  obtain s0 := hSw
                  go_simp
                  try with_reducible rfl
                try simp only [Act.put, List.setIfInBounds_toArray, List.set_cons_zero, List.set_cons_succ]
                refine wpAnyH_ready (rs := [4]) (by kernel_rfl) (by simp) ?_
                refine AllReadyH.cons rfl (fun K hK => ?_) AllReadyH.nil
                go_simp
                go_at_call 60
                refine (impl_total _ x W.drew gx hx1H (by omega)).mono ?_
                rintro e5 w5 ⟨rfl, rfl⟩
                refine hK.out _ _ z0 (fun hH => ?_)
                clear hK K
                try simp only [Act.put, List.setIfInBounds_toArray, List.set_cons_zero, List.set_cons_succ]
                refine wpAnyH_ready (rs := [6]) (by kernel_rfl) (by simp) ?_
                refine AllReadyH.cons rfl (fun K hK => ?_) AllReadyH.nil
                go_simp
                go_at_call 60
                refine (impl_total _ bs W.drew gb9 hb1H (by omega)).mono ?_
                rintro e5 w5 ⟨rfl, rfl⟩
                refine hK.out _ _ z0 (fun hH => ?_)
                clear hK K
                try simp only [Act.put, List.setIfInBounds_toArray, List.set_cons_zero, List.set_cons_succ]
                refine wpAnyH_ready (rs := [7]) (by kernel_rfl) (by simp) ?_
                refine AllReadyH.cons rfl (fun K hK => ?_) AllReadyH.nil
                go_simp
                go_at_call 59
                refine (cmp_Compare _ _ W.drew).mono ?_
                rintro e5 w5 ⟨rfl, rfl⟩
                rw [hciH.out]
                refine hK.out _ _ z0 (fun hH => ?_)
                clear hK K
                try simp only [Act.put, List.setIfInBounds_toArray, List.set_cons_zero, List.set_cons_succ]
                refine wpAnyH_ready (rs := [10]) (by kernel_rfl) (by simp) ?_
                refine AllReadyH.cons rfl (fun K hK => ?_) AllReadyH.nil
                go_simp
                go_at_call 61
                refine (slices_Compare_i64 _ _ x bs W.drew gx gb9).mono ?_
                rintro e5 w5 ⟨rfl, rfl⟩
                rw [hclH.out]
                refine hK.out _ _ z0 (fun hH => ?_)
                clear hK K
                try simp only [Act.put, List.setIfInBounds_toArray, List.set_cons_zero, List.set_cons_succ]
                refine wpAnyH_ready (rs := [11]) (by kernel_rfl) (by simp) ?_
                refine AllReadyH.cons rfl (fun K hK => ?_) AllReadyH.nil
                have hZ : Below W.drew.heap.size W.drew (W.drew.alloc (.cells #[.int .i64 ci, .int .i64 cl] 3)) := (Below.refl _ _).alloc (Nat.le_refl _) _
                have z0b := cell_keep z0 hZ
                have hL2 : Lst intCell 1 (W.drew.alloc (.cells #[.int .i64 ci, .int .i64 cl] 3)) (W.drew.alloc (.cells #[.int .i64 ci, .int .i64 cl] 3)).heap.size (.slice (some ⟨W.drew.heap.size, 0, none⟩) 2 2) [ci, cl] := lst_two W.drew _ ci cl
                go_simp
                refine hK.out _ _ z0b (fun hH => ?_)
                clear hK K
                try simp only [Act.put, List.setIfInBounds_toArray, List.set_cons_zero, List.set_cons_succ]
                refine wpAnyH_ready (rs := [12]) (by kernel_rfl) (by simp) ?_
                refine AllReadyH.cons rfl (fun K hK => ?_) AllReadyH.nil
                go_simp
                go_at_call 58
                refine (cmp_Or_two _ ci cl _ hL2).mono ?_
                rintro e5 w5 ⟨rfl, rfl⟩
                rw [hzqH.out]
                refine hK.out _ _ z0b (fun hH => ?_)
                clear hK K
                try simp only [Act.put, List.setIfInBounds_toArray, List.set_cons_zero, List.set_cons_succ]
                refine tkH 13 (v := ?_) rfl (fun _ _ _ h => h) (Or.inl ⟨by rfl, ?_⟩) hH ?_
                rotate_left
                · intro w9 hSw
                  try dsimp only at hSw
                  obtain s0 := hSw
                  go_simp
                  try with_reducible rfl
                try simp only [Act.put, List.setIfInBounds_toArray, List.set_cons_zero, List.set_cons_succ]
                refine tkH 14 (v := ?_) rfl (fun _ _ _ h => h) (Or.inl ⟨by rfl, ?_⟩) hH ?_
                rotate_left
                · intro w9 hSw
                  try dsimp only at hSw
                  obtain s0 := hSw
                  go_simp
                  try with_reducible rfl
                try simp only [Act.put, List.setIfInBounds_toArray, List.set_cons_zero, List.set_cons_succ]
                refine wpAnyH_done (by kernel_rfl) ?_ _
                clear z0 z0b hH hZ hL2 gx gb9
                have hW7 := hBd.trans (hZ0.mono hBd.size)
                clear hBd hZ0
                gi_wp2
                exact ⟨rfl, keepsFrom_below hW7, hW7.mono hB.size, fun k hk => hW7.block k (by omega), _, hbx.now hW7, by rw [hn2.out]; exact hO.now hW7, hne, hnn hn2.out, hB.trans (hW7.mono hB.size)⟩
          case done =>
            intro D xs W hD hS hI hK
            obtain ⟨bv, hbx, hO, hne, hnil, hB⟩ := hI
            have hbe : xs.foldl (stepB suf) [] = best := by rw [hS]; exact hbestH.out
            rw [hbe] at hO hnil
            have hO9 : Own intCell 1 2 (W.putObj D (.deferred none)) w.heap.size bv best := own_base (own_bears hO (grownBy_putObj' W D (.deferred none)) (fun r e => by cases e; exact .inr ⟨_, hK, rfl⟩)) hW.size
            have hB9 : Below w.heap.size w (W.putObj D (.deferred none)) := hW.trans ((hB.trans (belowK_b (w := w3) (Nat.le_refl _) W D _ _ (by omega) hK rfl rfl)).mono hW.size)
            have c0 : W.cell? ⟨w3.heap.size, 0, none⟩ = some bv := by simpa using hbx.cell 0
            have hO9H := Lib.hid hO9
            have heq := fun (w : World) (A : Option Addr) (l c : Nat) => Lib.run_eql_slice_nil (P := Try.prog) w 38 2 A l c 0 0 Try.underlying38
            by_cases hn : best = []
            · have hbv := hnil.out hn
              subst hbv
              have hE' : Hid (leastRF (n : Int) gp l a b = ([], 4)) := by show _ = _; rw [hE.out, if_pos hn, hn]
              clear hn hbe hS hnil hO hO9 hE
              go_wp2
              refine rets2D rfl rfl hK ?_
              exact RetOwnI.of hE'.out ⟨_, rfl, Own.nil, hB9⟩
            · obtain ⟨bg, bc, hv, hbg1, hbg2⟩ := own_form hO (List.length_pos_iff.2 hn)
              subst hv
              have hE' : Hid (leastRF (n : Int) gp l a b = (best, 0)) := by show _ = _; rw [hE.out, if_neg hn]
              clear hn hbe hS hnil hO hO9 hE
              go_wp2
              refine rets2D rfl rfl hK ?_
              exact RetOwnI.of hE'.out ⟨_, rfl, hO9H.out, hB9⟩
end Go.Proofs.Ytbdklhahbeiffaa
namespace Go.Proofs.Ytbdklhahbeiffaa
open Go.RowKit
set_option linter.unusedVariables false
set_option linter.unusedSimpArgs false
/-- What LeastRoom gives. -/
noncomputable def leastOF (ge : Int) (gp : List Place) (i a b : Int) : Int × Int := if (leastRF ge gp [i] a b).2 = 0 then ((leastRF ge gp [i] a b).1.getD 0 0, 0) else (0, (leastRF ge gp [i] a b).2)
theorem leastRF_ne {ge : Int} {gp : List Place} {l : List Int} {a b : Int} (h : (leastRF ge gp l a b).2 = 0) : (leastRF ge gp l a b).1 ≠ [] := by
  unfold leastRF at h ⊢
  split at h
  · cases h
  · split at h
    · cases h
    · split at h
      · cases h
      · split at h
        · cases h
        · rename_i h1 h2 h3 h4
          rw [if_neg h1, if_neg h2, if_neg h3, if_neg h4]
          exact h4
theorem leastRF_len (ge : Int) (gp : List Place) (l : List Int) (a b : Int) : (leastRF ge gp l a b).1.length ≤ 1048576 := by
  unfold leastRF
  split
  · simp
  · split
    · simp
    · split
      · simp
      · split
        · simp
        · rename_i h1 h2 h3 h4
          have hb : bufOk gp.length l = true := by simpa using h2
          have hl := (bufOk_at hb).1
          have := ((leastF_best (suf := sufO ge.toNat gp l a b) (gp := gp) (l := l) (by rintro rfl; simp at hl)).2 h4).1
          have := roomsOk_len this
          show (leastF (sufO ge.toNat gp l a b) gp l).length ≤ 1048576
          omega
set_option maxHeartbeats 2000000 in
set_option maxRecDepth 100000 in
theorem impl_LeastRoom (v : Value) (ge : Int) (gp : List Place) (i a b : Int) (w : World) (h0 : Lst Place.cells 4 w w.heap.size v gp) :
    Calls Try.prog 12 #[.agg #[.int .i64 ge, v], .int .i64 i, .agg #[.int .i64 a, .int .i64 b]] w fun e w' => e = .returned (.tuple #[.int .i64 (leastOF ge gp i a b).1, .int .i64 (leastOF ge gp i a b).2]) ∧ Below w.heap.size w w' := by
  obtain ⟨A, c, rfl⟩ := h0.shape
  go_enter Try.func12, Try.ntmps12
  go_wp2_with fail
  have hW : Below w.heap.size w ((w.alloc (.cells #[.int .i64 ge, .slice A gp.length c] 32)).alloc (.cells #[.int .i64 a, .int .i64 b] 34)) := (((Below.refl _ _).alloc (Nat.le_refl _) _).alloc (by first | (simp; done) | (simp; omega)) _); have hb0 : Blk ((w.alloc (.cells #[.int .i64 ge, .slice A gp.length c] 32)).alloc (.cells #[.int .i64 a, .int .i64 b] 34)) (w.heap.size) 32 #[.int .i64 ge, .slice A gp.length c] := ((Blk.newAt w _ (by first | rfl | (simp; done) | (simp; omega))).alloc _); have hb1 : Blk ((w.alloc (.cells #[.int .i64 ge, .slice A gp.length c] 32)).alloc (.cells #[.int .i64 a, .int .i64 b] 34)) (w.heap.size + 1) 34 #[.int .i64 a, .int .i64 b] := (Blk.newAt (w.alloc (.cells #[.int .i64 ge, .slice A gp.length c] 32)) _ (by first | rfl | (simp; done) | (simp; omega))); replace h0 := h0.now hW; have hsW : w.heap.size + 2 = ((w.alloc (.cells #[.int .i64 ge, .slice A gp.length c] 32)).alloc (.cells #[.int .i64 a, .int .i64 b] 34)).heap.size := (by first | rfl | (simp; done) | (simp; omega)); generalize ((w.alloc (.cells #[.int .i64 ge, .slice A gp.length c] 32)).alloc (.cells #[.int .i64 a, .int .i64 b] 34)) = W at *; replace hsW := Lib.hid hsW
  have hN1 : Below W.heap.size W (W.alloc (.cells #[.int .i64 i] 2)) := (Below.refl _ _).alloc (Nat.le_refl _) _
  have a1 := (lst_new1 intCell 1 intCell_len W 2 i #[.int .i64 i] rfl (w.heap.size + 1 + 1) (by have := hsW.out; omega)).more (show w.heap.size + 1 + 1 + 1 ≤ (W.alloc (.cells #[.int .i64 i] 2)).heap.size by have := hsW.out; simp; omega)
  replace hW := hW.trans (hN1.mono hW.size); replace h0 := h0.now hN1; replace hb0 := hb0.now hN1; replace hb1 := hb1.now hN1
  with_reducible refine (impl_LeastRooms _ _ _ _ [i] a b _ h0 a1).mono ?_
  rintro e w4 ⟨x, rfl, hO, hB⟩
  obtain ⟨X, cx, rfl⟩ := hO.shape
  have hBt := hW.trans (hB.mono hW.size)
  by_cases hc : (leastRF ge gp [i] a b).2 = 0
  · have hn := leastRF_ne hc
    have hE : Hid (leastOF ge gp i a b = ((leastRF ge gp [i] a b).1.getD 0 0, 0)) := if_pos hc
    rw [hc]
    generalize (leastRF ge gp [i] a b).1 = L at *
    clear hc
    obtain ⟨bg, off, hX, _, c0⟩ := ints_at hO.lst 0 (List.length_pos_iff.2 hn)
    cases hX
    have hg : Hid (L.getD 0 0 = L[0]'(List.length_pos_iff.2 hn)) := by show _ = _; simp [List.getD, List.getElem?_eq_getElem (List.length_pos_iff.2 hn)]
    obtain ⟨z, hz⟩ : ∃ z, L[0]'(List.length_pos_iff.2 hn) = z := ⟨_, rfl⟩
    rw [hz] at c0 hg
    simp only [Nat.add_zero] at c0
    have hp : (0 : Int) < (L.length : Int) := by have := List.length_pos_iff.2 hn; omega
    clear hz hn
    go_wp2
    go_ret2
    exact ⟨ret_ii (by rw [hE.out]; exact hg.out.symm) (by rw [hE.out]), hBt⟩
  · have hE : Hid (leastOF ge gp i a b = (0, (leastRF ge gp [i] a b).2)) := if_neg hc
    generalize (leastRF ge gp [i] a b).1 = L at *
    generalize (leastRF ge gp [i] a b).2 = C at *
    have q1 : (C != 0) = true := by simpa using hc
    clear hc
    go_wp2
    go_ret2
    exact ⟨ret_ii (by rw [hE.out]) (by rw [hE.out]), hBt⟩
set_option maxHeartbeats 2000000 in
set_option maxRecDepth 100000 in
theorem spec_LeastRoom (v : Value) (ge : Int) (gp : List Place) (i a b : Int) (w : World) (h0 : Lst Place.cells 4 w w.heap.size v gp) :
    Calls Try.prog 9 #[.agg #[.int .i64 ge, v], .int .i64 i, .agg #[.int .i64 a, .int .i64 b]] w fun e w' => e = .returned (.tuple #[.int .i64 (leastOF ge gp i a b).1, .int .i64 (leastOF ge gp i a b).2]) ∧ Below w.heap.size w w' := by
  obtain ⟨A, c, rfl⟩ := h0.shape
  go_enter Try.func9, Try.ntmps9
  go_wp2_with fail
  have hW : Below w.heap.size w ((w.alloc (.cells #[.int .i64 ge, .slice A gp.length c] 32)).alloc (.cells #[.int .i64 a, .int .i64 b] 34)) := (((Below.refl _ _).alloc (Nat.le_refl _) _).alloc (by first | (simp; done) | (simp; omega)) _); have hb0 : Blk ((w.alloc (.cells #[.int .i64 ge, .slice A gp.length c] 32)).alloc (.cells #[.int .i64 a, .int .i64 b] 34)) (w.heap.size) 32 #[.int .i64 ge, .slice A gp.length c] := ((Blk.newAt w _ (by first | rfl | (simp; done) | (simp; omega))).alloc _); have hb1 : Blk ((w.alloc (.cells #[.int .i64 ge, .slice A gp.length c] 32)).alloc (.cells #[.int .i64 a, .int .i64 b] 34)) (w.heap.size + 1) 34 #[.int .i64 a, .int .i64 b] := (Blk.newAt (w.alloc (.cells #[.int .i64 ge, .slice A gp.length c] 32)) _ (by first | rfl | (simp; done) | (simp; omega))); replace h0 := h0.now hW; have hsW : w.heap.size + 2 = ((w.alloc (.cells #[.int .i64 ge, .slice A gp.length c] 32)).alloc (.cells #[.int .i64 a, .int .i64 b] 34)).heap.size := (by first | rfl | (simp; done) | (simp; omega)); generalize ((w.alloc (.cells #[.int .i64 ge, .slice A gp.length c] 32)).alloc (.cells #[.int .i64 a, .int .i64 b] 34)) = W at *; replace hsW := Lib.hid hsW
  have hN1 : Below W.heap.size W (W.alloc (.cells #[.int .i64 i] 2)) := (Below.refl _ _).alloc (Nat.le_refl _) _
  have a1 := (lst_new1 intCell 1 intCell_len W 2 i #[.int .i64 i] rfl (w.heap.size + 1 + 1) (by have := hsW.out; omega)).more (show w.heap.size + 1 + 1 + 1 ≤ (W.alloc (.cells #[.int .i64 i] 2)).heap.size by have := hsW.out; simp; omega)
  replace hW := hW.trans (hN1.mono hW.size); replace h0 := h0.now hN1; replace hb0 := hb0.now hN1; replace hb1 := hb1.now hN1
  with_reducible refine (spec_LeastRooms _ _ _ _ [i] a b _ h0 a1).mono ?_
  rintro e w4 ⟨x, rfl, hO, hB⟩
  obtain ⟨X, cx, rfl⟩ := hO.shape
  have hBt := hW.trans (hB.mono hW.size)
  by_cases hc : (leastRF ge gp [i] a b).2 = 0
  · have hn := leastRF_ne hc
    have hE : Hid (leastOF ge gp i a b = ((leastRF ge gp [i] a b).1.getD 0 0, 0)) := if_pos hc
    rw [hc]
    generalize (leastRF ge gp [i] a b).1 = L at *
    clear hc
    obtain ⟨bg, off, hX, _, c0⟩ := ints_at hO.lst 0 (List.length_pos_iff.2 hn)
    cases hX
    have hg : Hid (L.getD 0 0 = L[0]'(List.length_pos_iff.2 hn)) := by show _ = _; simp [List.getD, List.getElem?_eq_getElem (List.length_pos_iff.2 hn)]
    obtain ⟨z, hz⟩ : ∃ z, L[0]'(List.length_pos_iff.2 hn) = z := ⟨_, rfl⟩
    rw [hz] at c0 hg
    simp only [Nat.add_zero] at c0
    have hp : (0 : Int) < (L.length : Int) := by have := List.length_pos_iff.2 hn; omega
    clear hz hn
    go_wp2
    go_ret2
    exact ⟨ret_ii (by rw [hE.out]; exact hg.out.symm) (by rw [hE.out]), hBt⟩
  · have hE : Hid (leastOF ge gp i a b = (0, (leastRF ge gp [i] a b).2)) := if_neg hc
    generalize (leastRF ge gp [i] a b).1 = L at *
    generalize (leastRF ge gp [i] a b).2 = C at *
    have q1 : (C != 0) = true := by simpa using hc
    clear hc
    go_wp2
    go_ret2
    exact ⟨ret_ii (by rw [hE.out]) (by rw [hE.out]), hBt⟩
end Go.Proofs.Ytbdklhahbeiffaa
