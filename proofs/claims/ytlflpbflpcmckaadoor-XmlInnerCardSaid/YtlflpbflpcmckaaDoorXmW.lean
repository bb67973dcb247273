/-
  XML: the tables and the error's variable, as the card says that they read.
-/
import Derived.Test.YtlflpbflpcmckaaDoorXmV
import Derived.Test.YtlflpbflpcmckaaDoorRows
import Derived.Lib.LaidU8T
import Derived.PinnedBridge
import Derived.Lib.LaidU8
import Derived.HandedShaped
import Derived.Shelf.Vars
import Derived.LaidLaws
namespace Go.Proofs.YtlflpbflpcmckaaDoor
open Go Go.Ez Go.RowKit Go.Lib Go.ChangeShapes Go.WideShapes
set_option linter.unusedVariables false
/-- a variable that holds an error -/
theorem err_of_var {P : Program} {W : World} {name nm : String} {d : DataW Unit} {g : Nat} {ti : TypeId} {ms : Array (String × TypeId)} (hg : P.globalNamed name = some g) (ht : (P.globals[g]?).map (·.type) = some ti) (hi : P.underlying ti = some (.interface ms))
    (h : VarReads P W name (.iface nm d)) : ∃ ev, W.cell? ⟨g, 0, none⟩ = some ev ∧ (ev = .nilIface ∨ ∃ te pe, ev = .iface te pe) := by
  obtain ⟨g', t', cs, fuel, p, hg', ht', hvar, hd⟩ := h
  obtain rfl := Option.some.inj (hg.symm.trans hg')
  obtain rfl := Option.some.inj (ht.symm.trans ht')
  obtain ⟨f1, u, v, hcs, _⟩ := iface_of_trod hi hd
  refine ⟨.iface u v, ?_, .inr ⟨u, v, rfl⟩⟩
  rw [World.var?_cell hg hvar 0, ← Array.getElem?_toList, hcs]
  rfl
theorem u8types : U8Types Tryd.prog Tryd.lays197_ren := { Tryd.lays197 with }
theorem xtabs_of {W : World} {d1 : DataW Unit} {n1 : String} (h1 : VarReads Tryd.prog W "unicode/utf8.first" Go.Lib.firstData) (h2 : VarReads Tryd.prog W "unicode/utf8.acceptRanges" Go.Lib.acceptData) (h3 : VarReads Tryd.prog W "strconv.ErrSyntax" (.iface n1 d1)) : XTabs W :=
  ⟨utf8Tabs_of_readsT u8types ⟨by kernel_rfl, by kernel_rfl, by kernel_rfl, by kernel_rfl, by kernel_rfl, by kernel_rfl, by kernel_rfl⟩ h1 h2, err_of_var (g := 3) (ti := 73) (by kernel_rfl) (by kernel_rfl) Tryd.underlying73 h3⟩
end Go.Proofs.YtlflpbflpcmckaaDoor
