/-
  EZ: slices that are made, of one cell each; an element of what is owned, set.
-/
import Derived.Test.YtififikdlcohpaaDoorEzSlc
namespace Go.Ez
open Go Go.Proofs Go.RowKit
set_option linter.unusedSimpArgs false
set_option linter.unusedVariables false
section
variable {P : Program} {w0 W W' : World} {G : Nat → Prop} {l R : List As} {K : Value → Prop} {KW : Value → World → Prop} {KU : World → Prop}
theorem madeCells_one {z : Value} (o : Cel1 z) (n : Nat) : (madeCells z.cells (n * 1)).toList = List.replicate n z := by
  rw [o.cells, Nat.mul_one]
  apply List.ext_getElem?
  intro j
  unfold madeCells
  by_cases hj : j < n
  · simp [hj, Nat.mod_one]
  · simp [hj]
/-- 'make([]T, n)' -/
theorem St.make {t e : TypeId} {bytes n : Nat} {z : Value} {kl kc : IntKind} [S : SlT P t e 1 bytes z] [o : Cel1 z] (h : St w0 G l W) (hb : bytes * n ≤ 281474976710656) (hn : n ≤ maxLen)
    (k : ∀ v W', Cel1 v → St w0 G (Ky v (Ow e 1 n (List.replicate n z)) :: l) W' → KW v W') : RunV P (Instr.makeSlice t (nV kl n) (nV kc n)) W KW := by
  obtain ⟨i, hi, hz, hs, hby⟩ := info_parts S.el.info
  obtain ⟨W', hr, how, hg⟩ := run_make_full (P := P) W W.heap.size t e i z 1 S.el.und hi hz hs kl kc n (by rw [hby]; exact hb) hn (Nat.le_refl _)
  rw [madeCells_one o] at how
  refine .of hr (k _ W' ⟨rfl⟩ (h.newOw (B := W.heap.size) ?_ how (Nat.le_refl _)))
  exact ⟨hg.os, hg.tape, hg.output, hg.size, fun i hi => hg.block i hi (by simp)⟩
/-- 'v[j] = x' -/
theorem St.setAt {t e : TypeId} {bytes n j : Nat} {z z' v x : Value} {xs : List Value} {k0 : IntKind} [i : Has l v (Ow e 1 n xs) R] [S : SlT P t e 1 bytes z] [T : Ty1 P e z'] [o : Cel1 x] (h : St w0 G l W) (hj : j < n)
    (k : ∀ W', St w0 G (Ky v (Ow e 1 n (xs.set j x)) :: R) W' → KU W') : RunA P (Instr.indexAt t v (.int k0 (j : Int))) fun p => RunU P (Instr.storeAt e p x) W KU := by
  refine h.setI (v := v) (xs := xs) hj fun g cap hv _ => ?_
  subst hv
  rw [Nat.mul_one]
  exact h.storeI (xs := xs) (n := n) (by omega) k
end
end Go.Ez
