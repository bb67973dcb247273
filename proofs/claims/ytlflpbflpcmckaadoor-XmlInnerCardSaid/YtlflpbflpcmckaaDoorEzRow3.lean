/-
  EZ: slices in arguments' fields, opened: the cells of each element.
-/
import Derived.Test.YtlflpbflpcmckaaDoorEzRow2
namespace Go.Ez
open Go Go.Proofs Go.RowKit Go.ChangeShapes Go.WideShapes
set_option linter.unusedSimpArgs false
set_option linter.unusedVariables false

section
variable {H : Type} {enc : TypeId × Value → H} {P : Program}

theorem sl_of_cells {α : Type} {W : World} {base sz : Nat} {sp : Nat → Bool} {held : Bool} {t e : TypeId} (encA : α → List Value) (Q : α → Prop) (hsz : ∀ a, (encA a).length = sz) (ht : P.underlying t = some (.slice e)) (hc : P.cellsOf e = sz)
    (hel : ∀ (fuel : Nat) (cs : List Value) (x : DataW H × List MemPlace), DataW.trod enc P W base sp held fuel e cs = some x → ∃ a, cs = encA a ∧ Q a) {v : Value} {x : DataW H × List MemPlace} {fuel : Nat}
    (hf : DataW.trod enc P W base sp held fuel t [v] = some x) (hpos : 0 < sz) : ∃ ys : List α, Sl W sz v ys.length (ys.flatMap encA) ∧ ys.length ≤ maxLen ∧ ∀ a ∈ ys, Q a := by
  rcases Go.Deep.open_slice ht hf with ⟨hcs, hx⟩ | ⟨a, len', cap', m, n, D, Pl, hcs, _, hl, hm, hmm, hx, hcell⟩
  · simp only [List.cons.injEq, and_true] at hcs
    rw [hcs]
    exact ⟨[], Sl.nil W sz, by simp, by simp⟩
  · simp only [List.cons.injEq, and_true] at hcs
    subst hcs
    revert hl hm hmm hx hcell
    generalize len' = len
    generalize cap' = cap
    intro hl hm hmm hx hcell
    have hlm : len ≤ m := by rw [hmm]; split <;> omega
    have hV : ∀ i, i < len → ∃ x : α, W.cells? base (a.add (i * P.cellsOf e)) (P.cellsOf e) = some (encA x) ∧ Q x := fun i hi => by
      obtain ⟨cs', h1, h2⟩ := hcell i (by omega)
      obtain ⟨x, rfl, hq⟩ := hel _ _ _ h2
      exact ⟨x, h1, hq⟩
    have hex : ∀ k, k ≤ len → ∃ ys : List α, ys.length = k ∧ ∀ i x, ys[i]? = some x → W.cells? base (a.add (i * P.cellsOf e)) (P.cellsOf e) = some (encA x) ∧ Q x := by
      intro k
      induction k with
      | zero => intro _; exact ⟨[], rfl, fun i x h => by simp at h⟩
      | succ k ih =>
        intro hk
        obtain ⟨ys, h1, h2⟩ := ih (by omega)
        obtain ⟨x, hx⟩ := hV k (by omega)
        refine ⟨ys ++ [x], by simp [h1], fun i y hy => ?_⟩
        rcases getElem?_snoc hy with ⟨_, hy⟩ | ⟨hi, rfl⟩
        · exact h2 i y hy
        · subst hi; rw [h1]; exact hx
    obtain ⟨ys, h1, h2⟩ := hex len (Nat.le_refl _)
    subst h1
    have hlen : ∀ (ys : List α), (ys.flatMap encA).length = ys.length * sz := by
      intro ys
      induction ys with
      | nil => simp
      | cons x ys ih => rw [List.flatMap_cons, List.length_append, hsz, ih, List.length_cons, Nat.succ_mul, Nat.add_comm]
    have hget : ∀ (ys : List α) (j : Nat) (u : Value), (ys.flatMap encA)[j]? = some u → ∃ i x q, ys[i]? = some x ∧ (encA x)[q]? = some u ∧ j = i * sz + q ∧ q < sz := by
      intro ys
      induction ys with
      | nil => intro j u h; simp at h
      | cons x ys ih =>
        intro j u h
        rw [List.flatMap_cons] at h
        rcases Nat.lt_or_ge j sz with hj | hj
        · rw [List.getElem?_append_left (by rw [hsz]; exact hj)] at h
          exact ⟨0, x, j, rfl, h, by omega, hj⟩
        · rw [List.getElem?_append_right (by rw [hsz]; exact hj), hsz] at h
          obtain ⟨i, y, q, e1, e2, e3, e4⟩ := ih _ _ h
          exact ⟨i + 1, y, q, by simpa using e1, e2, by rw [Nat.succ_mul]; omega, e4⟩
    refine ⟨ys, ⟨some a, cap, rfl, hl, hlen ys, fun j u hj => ?_, by simp⟩, by omega, fun x hx => ?_⟩
    · obtain ⟨i, x, q, e1, e2, rfl, e4⟩ := hget ys j u hj
      have hc1 := (h2 i x e1).1
      rw [hc] at hc1
      obtain ⟨_, hl2, hcl⟩ := World.cells?_some hc1
      have h0 := hcl q (by omega)
      have hil := (List.getElem?_eq_some_iff.1 e1).1
      have hspot : a.spot = none := by
        obtain ⟨y0, hy0⟩ : ∃ y0, ys[0]? = some y0 := ⟨_, List.getElem?_eq_getElem (by omega)⟩
        have hc0 := (h2 0 y0 hy0).1
        rw [hc] at hc0
        have g0 := (World.cells?_some hc0).2.2 0 hpos
        have ha0 : (a.add (0 * sz)).add 0 = a := by simp [Addr.add]
        rw [ha0, List.getElem?_eq_getElem (by rw [hsz]; exact hpos)] at g0
        unfold World.cell? at g0
        split at g0
        · cases hs : a.spot with
          | none => rfl
          | some _ => rw [hs] at g0; simp at g0
        · cases g0
      obtain ⟨bb, oo, ss⟩ := a
      simp only at hspot
      subst hspot
      rw [addr_add, addr_add] at h0
      refine ⟨bb, oo, rfl, ?_⟩
      rw [← Nat.add_assoc, h0, e2]
    · obtain ⟨i, hi, he⟩ := List.getElem_of_mem hx
      exact (h2 i x (by rw [List.getElem?_eq_getElem hi, he])).2

end
end Go.Ez
