/-
  EZ: arguments that are slices, opened: the cells of each element.
-/
import Derived.Test.YtlflpbflpcmckaaDoorEzRow
import Derived.Test.YtlflpbflpcmckaaDoorOmP
namespace Go.Ez
open Go Go.Proofs Go.RowKit Go.ChangeShapes Go.WideShapes
set_option linter.unusedSimpArgs false
set_option linter.unusedVariables false

section
variable {H : Type} {enc : TypeId × Value → H} {P : Program}

theorem sl_of_trod {α : Type} {W : World} {b0 base sz : Nat} {r : Reach} {sp : Nat → Bool} {held : Bool} {t e : TypeId} (encA : α → List Value) (Q : α → Prop) (hsz : ∀ a, (encA a).length = sz) (ht : P.underlying t = some (.slice e)) (hc : P.cellsOf e = sz)
    (hel : ∀ (fuel : Nat) (cs : List Value) (x : DataW H × List MemPlace), DataW.trod enc P W base sp held fuel e cs = some x → ∃ a, cs = encA a ∧ Q a) {v : Value} {d : DataW H} {ps : List MemPlace}
    (hval : Value.okWide P W r b0 t v) (hd : DataW.Trod enc P W base sp held t v d ps) (hpos : 0 < sz) : ∃ ys : List α, Sl W sz v ys.length (ys.flatMap encA) ∧ ys.length ≤ maxLen ∧ ∀ a ∈ ys, Q a := by
  obtain ⟨a0, len, cap, rfl⟩ := okWide_slice ht hval
  obtain ⟨fuel, hf⟩ := hd
  have hcs : (Value.slice a0 len cap).cells.toList = [.slice a0 len cap] := by simp [Value.cells]
  rw [hcs] at hf
  rcases Go.Deep.open_slice ht hf with ⟨hcs, hx⟩ | ⟨a, len', cap', m, n, D, Pl, hcs, _, hl, hm, hmm, hx, hcell⟩
  · simp only [List.cons.injEq, and_true] at hcs
    rw [hcs]
    exact ⟨[], Sl.nil W sz, by simp, by simp⟩
  · simp only [List.cons.injEq, and_true, Value.slice.injEq] at hcs
    obtain ⟨rfl, rfl, rfl⟩ := hcs
    have hlm : len ≤ m := by rw [hmm]; split <;> omega
    have hV : ∀ i, i < len → ∃ x : α, W.cells? base (a.add (i * P.cellsOf e)) (P.cellsOf e) = some (encA x) ∧ Q x := fun i hi => by
      obtain ⟨cs', h1, h2⟩ := hcell i (by omega)
      obtain ⟨x, rfl, hq⟩ := hel _ _ _ h2
      exact ⟨x, h1, hq⟩
    have hex : ∀ k, k ≤ len → ∃ ys : List α, ys.length = k ∧ ∀ i x, ys[i]? = some x → W.cells? base (a.add (i * P.cellsOf e)) (P.cellsOf e) = some (encA x) ∧ Q x := by
      intro k
      induction k with
      | zero => intro _; exact ⟨[], rfl, fun i x h => by simp at h⟩
      | succ k ih =>
        intro hk
        obtain ⟨ys, h1, h2⟩ := ih (by omega)
        obtain ⟨x, hx⟩ := hV k (by omega)
        refine ⟨ys ++ [x], by simp [h1], fun i y hy => ?_⟩
        rcases getElem?_snoc hy with ⟨_, hy⟩ | ⟨hi, rfl⟩
        · exact h2 i y hy
        · subst hi; rw [h1]; exact hx
    obtain ⟨ys, h1, h2⟩ := hex len (Nat.le_refl _)
    subst h1
    have hlen : ∀ (ys : List α), (ys.flatMap encA).length = ys.length * sz := by
      intro ys
      induction ys with
      | nil => simp
      | cons x ys ih => rw [List.flatMap_cons, List.length_append, hsz, ih, List.length_cons, Nat.succ_mul, Nat.add_comm]
    have hget : ∀ (ys : List α) (j : Nat) (u : Value), (ys.flatMap encA)[j]? = some u → ∃ i x q, ys[i]? = some x ∧ (encA x)[q]? = some u ∧ j = i * sz + q ∧ q < sz := by
      intro ys
      induction ys with
      | nil => intro j u h; simp at h
      | cons x ys ih =>
        intro j u h
        rw [List.flatMap_cons] at h
        rcases Nat.lt_or_ge j sz with hj | hj
        · rw [List.getElem?_append_left (by rw [hsz]; exact hj)] at h
          exact ⟨0, x, j, rfl, h, by omega, hj⟩
        · rw [List.getElem?_append_right (by rw [hsz]; exact hj), hsz] at h
          obtain ⟨i, y, q, e1, e2, e3, e4⟩ := ih _ _ h
          exact ⟨i + 1, y, q, by simpa using e1, e2, by rw [Nat.succ_mul]; omega, e4⟩
    refine ⟨ys, ⟨some a, cap, rfl, hl, hlen ys, fun j u hj => ?_, by simp⟩, by omega, fun x hx => ?_⟩
    · obtain ⟨i, x, q, e1, e2, rfl, e4⟩ := hget ys j u hj
      have hc1 := (h2 i x e1).1
      rw [hc] at hc1
      obtain ⟨_, hl2, hcl⟩ := World.cells?_some hc1
      have h0 := hcl q (by omega)
      have hil := (List.getElem?_eq_some_iff.1 e1).1
      have hspot : a.spot = none := by
        obtain ⟨y0, hy0⟩ : ∃ y0, ys[0]? = some y0 := ⟨_, List.getElem?_eq_getElem (by omega)⟩
        have hc0 := (h2 0 y0 hy0).1
        rw [hc] at hc0
        have g0 := (World.cells?_some hc0).2.2 0 hpos
        have ha0 : (a.add (0 * sz)).add 0 = a := by simp [Addr.add]
        rw [ha0, List.getElem?_eq_getElem (by rw [hsz]; exact hpos)] at g0
        unfold World.cell? at g0
        split at g0
        · cases hs : a.spot with
          | none => rfl
          | some _ => rw [hs] at g0; simp at g0
        · cases g0
      obtain ⟨bb, oo, ss⟩ := a
      simp only at hspot
      subst hspot
      rw [addr_add, addr_add] at h0
      refine ⟨bb, oo, rfl, ?_⟩
      rw [← Nat.add_assoc, h0, e2]
    · obtain ⟨i, hi, he⟩ := List.getElem_of_mem hx
      exact (h2 i x (by rw [List.getElem?_eq_getElem hi, he])).2

/-- texts -/
theorem strs_of_trod {W : World} {b0 base : Nat} {r : Reach} {sp : Nat → Bool} {held : Bool} {t e : TypeId} (ht : P.underlying t = some (.slice e)) (he : P.underlying e = some .string) (hc : P.cellsOf e = 1) {v : Value} {d : DataW H} {ps : List MemPlace}
    (hval : Value.okWide P W r b0 t v) (hd : DataW.Trod enc P W base sp held t v d ps) : ∃ ls : List Txt, Sl W 1 v ls.length (ls.map Enc.enc) ∧ ls.length ≤ maxLen ∧ ∀ l ∈ ls, l.length ≤ maxLen := by
  obtain ⟨ys, h1, h2, h3⟩ := sl_of_trod (enc := enc) (fun s : Txt => [Enc.enc s]) (fun s => s.length ≤ maxLen) (fun _ => rfl) ht hc (fun fuel cs x h => by
    obtain ⟨s, hs, _, hm⟩ := DataW.trod_string he h
    refine ⟨s.data.toList, ?_, hm⟩
    rw [hs]; rfl) hval hd (by decide)
  exact ⟨ys, by rw [List.map_eq_flatMap]; exact h1, h2, h3⟩
/-- numbers -/
theorem ints_of_trod {W : World} {b0 base : Nat} {r : Reach} {sp : Nat → Bool} {held : Bool} {t e : TypeId} (ht : P.underlying t = some (.slice e)) (he : P.underlying e = some (.int .i64)) (hc : P.cellsOf e = 1) {v : Value} {d : DataW H} {ps : List MemPlace}
    (hval : Value.okWide P W r b0 t v) (hd : DataW.Trod enc P W base sp held t v d ps) : ∃ ls : List Int, Sl W 1 v ls.length (ls.map Enc.enc) ∧ ls.length ≤ maxLen ∧ ∀ n ∈ ls, -9223372036854775808 ≤ n ∧ n ≤ 9223372036854775807 := by
  obtain ⟨ys, h1, h2, h3⟩ := sl_of_trod (enc := enc) (fun s : Int => [Enc.enc s]) (fun n => -9223372036854775808 ≤ n ∧ n ≤ 9223372036854775807) (fun _ => rfl) ht hc (fun fuel cs x h => by
    obtain ⟨n, hs, _, hw⟩ := DataW.trod_int he h
    refine ⟨n, hs, ?_⟩
    simp only [Lit.wf, Bool.and_eq_true, decide_eq_true_eq, IntKind.min, IntKind.max, IntKind.bits, IntKind.signed] at hw
    simp at hw
    omega) hval hd (by decide)
  exact ⟨ys, by rw [List.map_eq_flatMap]; exact h1, h2, h3⟩
end
end Go.Ez
