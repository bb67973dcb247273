/-
  NUMBERS: what the rows open.
-/
import Derived.Test.YtknbnfpdcbpoeaaDoorNuD
import Derived.Lib.LaidU8
namespace Go.Proofs.YtknbnfpdcbpoeaaDoor
open Go Go.Ez Go.RowKit Go.Lib
theorem tabIs_of_var {P : Program} {W : World} {name : String} {k : IntKind} {zs : List Int} {g : Nat} {t e : TypeId} {n : Nat}
    (hg : P.globalNamed name = some g) (hty : (P.globals[g]?).map (·.type) = some t) (ht : P.underlying t = some (.array n e)) (he : P.underlying e = some (.int k)) (hce : P.cellsOf e = 1) (hct : P.cellsOf t = n)
    (h : VarReads P W name (tabData k zs)) : TabIs P W name k zs := by
  obtain ⟨g', t', cs, fuel, p, hg', ht', hvar, hd⟩ := h
  obtain rfl := Option.some.inj (hg.symm.trans hg')
  obtain rfl := Option.some.inj (hty.symm.trans ht')
  unfold TabIs
  have := cells_of_tab ht he hce hct hd
  rw [hvar, ← this]
theorem wf_i64 {n : Int} (h : (Lit.int .i64 n).wf = true) : n ≤ 9223372036854775807 := by
  simp only [Lit.wf, Bool.and_eq_true, decide_eq_true_eq, IntKind.min, IntKind.max, IntKind.bits, IntKind.signed] at h
  have := h.2
  simp at this
  omega
theorem wf_u8 {n : Int} (h : (Lit.int .u8 n).wf = true) : ∃ y : UInt8, n = (y.toNat : Int) := by
  simp only [Lit.wf, Bool.and_eq_true, decide_eq_true_eq, IntKind.min, IntKind.max, IntKind.bits, IntKind.signed] at h
  have h1 := h.1
  have h2 := h.2
  simp at h1 h2
  exact ⟨UInt8.ofNat n.toNat, by rw [nu8 (by omega)]; omega⟩
theorem powTab_of {W : World} (h : VarReads Tryd.prog W "internal/strconv.uint64pow10" (tabData .u64 pow10Tab)) : PowTab W :=
  tabIs_of_var (g := (Tryd.prog.globalNamed "internal/strconv.uint64pow10").getD 0) (by kernel_rfl) (by kernel_rfl) Tryd.underlying82 Tryd.underlying69 (by kernel_rfl) (by kernel_rfl) h
end Go.Proofs.YtknbnfpdcbpoeaaDoor
