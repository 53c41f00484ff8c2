/-
  What a card's condition gives where numbers are parsed: the table, the two errors, the search's constant.
-/
import Derived.Test.YtcoomogabicfnaaGreatDoorDoor
import Derived.Stop.LaidErr
import Derived.Shelf.Strconv.ParseIntPublic10
import Derived.Shelf.Strings.Split
import Derived.Shelf.Strings.Cut
namespace Go.Proofs.YtcoomogabicfnaaGreatDoor
open Go.ChangeShapes Go.WideShapes Go.RowKit
set_option linter.unusedVariables false
shelf_lay LaysC.n174 Nm 174 at Tryz as Tryz.lays174
shelf_lay LaysM.n146 Nm 146 at Tryz as Tryz.lays146
/-- The variable holds nil or an error. -/
def ErrAt (w : World) (g : Nat) : Prop := ∃ ev, w.cell? ⟨g, 0, none⟩ = some ev ∧ (ev = .nilIface ∨ ∃ te pe, ev = .iface te pe)
theorem ErrAt.now {w w' : World} {g : Nat} (h : ErrAt w g) (hb : Below w.heap.size w w') : ErrAt w' g := by
  obtain ⟨ev, h1, h2⟩ := h
  exact ⟨ev, cell_keep h1 hb, h2⟩
structure Env (w : World) : Prop where
  tab : TabOf w
  max : ∃ m, w.cell? ⟨0, 0, none⟩ = some (.int .i64 m)
  syn : ErrAt w 4
  rng : ErrAt w 5
theorem Env.now {w w' : World} (h : Env w) (hb : Below w.heap.size w w') : Env w' := by
  obtain ⟨m, hm⟩ := h.max
  exact ⟨h.tab.now hb, ⟨m, cell_keep hm hb⟩, h.syn.now hb, h.rng.now hb⟩
theorem star_err : "*errors.errorString" = "*" ++ "errors.errorString" := by decide
theorem row_err (u : TypeId) (h : Tryz.prog.typeName? 3 u = some "*errors.errorString") : u = 179 :=
  typeName_ptr_named (nm := "errors.errorString") (by rw [← star_err]; kernel_rfl) (by kernel_rfl) (by decide) u (by rw [← star_err]; exact h)
theorem err_laid {laid : List (String × DataW Unit)} {W : World} {n : String} {g : Nat} {text : List UInt8} (h : laidMet Tryz.prog laid W)
    (hf : laid.filter (fun x => x.1 == n) = [(n, .iface "*errors.errorString" (.ptr (.agg [.lit (.string text)])))])
    (hg : Tryz.prog.globalNamed n = some g) (ht : (Tryz.prog.globals[g]?).map (·.type) = some 85) : ErrAt W g := by
  have h2 := laidMet.filter (fun x => x.1 == n) h
  rw [hf] at h2
  obtain ⟨a, s, hv, _⟩ := laid_sentinel h2 hg ht Tryz.underlying85 row_err Tryz.underlying179 Tryz.underlying181 rfl rfl Tryz.underlying9 (by kernel_rfl) (by kernel_rfl)
  have hc := World.var?_cell hg hv 0
  exact ⟨.iface 179 (.pointer (some a)), by simpa using hc, Or.inr ⟨_, _, rfl⟩⟩
theorem envOf_laid {laid : List (String × DataW Unit)} {W : World} (h : laidMetH Tryz.prog laid W) (hS : W.ShapedOpen Tryz.prog) (hp : (laid.all fun x => x.2.handleName?.isNone) = true)
    (hf : laid.filter (fun x => x.1 == "internal/strconv.uint64pow10") = [("internal/strconv.uint64pow10", Lib.tabData .u64 Lib.pow10Tab)])
    (hs : laid.filter (fun x => x.1 == "strconv.ErrSyntax") = [("strconv.ErrSyntax", Rows.laid_strconv_ErrSyntax)])
    (hr : laid.filter (fun x => x.1 == "strconv.ErrRange") = [("strconv.ErrRange", Rows.laid_strconv_ErrRange)]) : Env W := by
  refine ⟨tabOf_laid h hS hp hf, ?_, ?_, ?_⟩
  · exact Tryz.lays146.s1_3 W hS
  · rw [Go.MakeChecks.laidMetH_plain _ _ _ hp] at h
    exact err_laid h hs (by kernel_rfl) (by kernel_rfl)
  · rw [Go.MakeChecks.laidMetH_plain _ _ _ hp] at h
    exact err_laid h hr (by kernel_rfl) (by kernel_rfl)
end Go.Proofs.YtcoomogabicfnaaGreatDoor
