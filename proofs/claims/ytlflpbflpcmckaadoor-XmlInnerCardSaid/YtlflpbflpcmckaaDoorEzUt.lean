/-
  EZ: ranges over a text, sign by sign.
-/
import Derived.Test.YtlflpbflpcmckaaDoorEzMk
import Derived.Laws.RangeAny
namespace Go.Ez
open Go Go.Proofs Go.RowKit
set_option linter.unusedSimpArgs false
set_option linter.unusedVariables false
section
variable {P : Program} {w0 W W' : World} {G : Nat → Prop} {l R : List As} {KW : Value → World → Prop}
theorem app0 {f : FnN 0} {w : World} (h : f w) : appN 0 f [] w := h
theorem St.range {t : TypeId} {s : List UInt8} [U : Und P t .string] (h : St w0 G l W) (k : ∀ b W', St w0 G (Ky b (Ob (.stringIter ⟨s.toArray⟩ 0)) :: l) W' → KW (.pointer (some ⟨b, 0, none⟩)) W') : RunV P (Instr.range t (.string ⟨s.toArray⟩)) W KW :=
  .of (run_range_string W t _ U.eq) (k _ _ (h.newB ((Below.refl _ W).alloc (Nat.le_refl _) _) (Nat.le_refl _) (World.iter_heap W _ 0)))
theorem St.next {ty : TypeId} {b pos : Nat} {s : List UInt8} [i : Has l b (Ob (.stringIter ⟨s.toArray⟩ pos)) R] (h : St w0 G l W) (hp : pos < s.length)
    (k : ∀ W', St w0 G (Ky b (Ob (.stringIter ⟨s.toArray⟩ (pos + (Utf8.decode ⟨s.toArray⟩ pos).2))) :: R) W' → KW (.tuple #[.bool true, .int .i64 (pos : Int), .int .i32 ((Utf8.decode ⟨s.toArray⟩ pos).1 : Int)]) W') : RunV P (Instr.next (.pointer (some ⟨b, 0, none⟩)) true ty) W KW := by
  have hb := h.ob (b := b) (o := .stringIter ⟨s.toArray⟩ pos)
  have hsz : pos < (⟨s.toArray⟩ : ByteArray).size := by show pos < s.toArray.size; simpa using hp
  refine .of ?_ (k _ (h.putO (b := b) (o := .stringIter ⟨s.toArray⟩ pos) (.stringIter ⟨s.toArray⟩ (pos + (Utf8.decode ⟨s.toArray⟩ pos).2))))
  simp only [Instr.next, getObj, setObj, Sem.run_bind, Sem.run, hb, Result.andThen, hsz, if_true]
  simp [goInt]
  rfl
theorem St.nextEnd {ty : TypeId} {b pos : Nat} {s : List UInt8} [i : Has l b (Ob (.stringIter ⟨s.toArray⟩ pos)) R] (h : St w0 G l W) (hp : ¬ pos < s.length) (k : KW (.tuple #[.bool false]) W) : RunV P (Instr.next (.pointer (some ⟨b, 0, none⟩)) true ty) W KW := by
  have hb := h.ob (b := b) (o := .stringIter ⟨s.toArray⟩ pos)
  have hsz : ¬ pos < (⟨s.toArray⟩ : ByteArray).size := by show ¬ pos < s.toArray.size; simpa using hp
  refine .of ?_ k
  simp [Instr.next, getObj, Sem.run, hb, hsz]
end
end Go.Ez
