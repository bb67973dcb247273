/-
  VERSIONS, plainly: chains that rise, what the document's store does with them. No program in sight.
-/
import Derived.Test.YtffnabbchghokaaVerS
namespace Go.Ez
open Go
set_option linter.unusedSimpArgs false
set_option linter.unusedVariables false
/-- a chain that rises; what is gone has no value -/
structure GdC (c : List (Ver Txt)) : Prop where
  up : c.Pairwise fun a b => a.1 < b.1
  at_ : ∀ v ∈ c, 1 ≤ v.1 ∧ v.1 ≤ 1099511627776
  no : ∀ v ∈ c, v.2.2 = true → v.2.1 = []
def Gd (rows : VRows Txt) : Prop := ∀ r ∈ rows, GdC r.2
theorem GdC.nil : GdC [] := ⟨List.Pairwise.nil, fun v h => (by cases h), fun v h => by cases h⟩
theorem GdC.drop {c : List (Ver Txt)} (h : GdC c) (d : Nat) : GdC (c.drop d) := ⟨h.up.drop, fun v hv => h.at_ v (List.mem_of_mem_drop hv), fun v hv => h.no v (List.mem_of_mem_drop hv)⟩
theorem GdC.lt {c : List (Ver Txt)} (h : GdC c) {i j : Nat} {u v : Ver Txt} (hi : c[i]? = some u) (hj : c[j]? = some v) (hij : i < j) : u.1 < v.1 := by
  have h1 := List.getElem?_eq_some_iff.1 hi
  have h2 := List.getElem?_eq_some_iff.1 hj
  have := List.pairwise_iff_getElem.1 h.up i j h1.1 h2.1 hij
  rw [h1.2, h2.2] at this
  exact this
theorem lastC_eq {c : List (Ver Txt)} {v : Ver Txt} (h : c[c.length - 1]? = some v) : lastC c = v.1 := by
  unfold lastC
  rw [List.getLast?_eq_getElem?, h]
theorem GdC.le_last {c : List (Ver Txt)} (h : GdC c) {v : Ver Txt} (hv : v ∈ c) : v.1 ≤ lastC c := by
  obtain ⟨i, hi, he⟩ := List.getElem_of_mem hv
  have h1 : c[i]? = some v := by rw [List.getElem?_eq_getElem hi, he]
  obtain ⟨w, hw⟩ : ∃ w, c[c.length - 1]? = some w := ⟨_, List.getElem?_eq_getElem (by omega)⟩
  rw [lastC_eq hw]
  by_cases hi2 : i = c.length - 1
  · subst hi2; rw [h1] at hw; cases hw; exact Int.le_refl _
  · exact Int.le_of_lt (h.lt h1 hw (by omega))
theorem GdC.snoc {c : List (Ver Txt)} (h : GdC c) {v : Ver Txt} (h1 : lastC c < v.1) (h2 : 1 ≤ v.1 ∧ v.1 ≤ 1099511627776) (h3 : v.2.2 = true → v.2.1 = []) : GdC (c ++ [v]) := by
  have one : ∀ {x : Ver Txt}, x ∈ c ++ [v] → x ∈ c ∨ x = v := fun hx => by simpa using hx
  refine ⟨List.pairwise_append.2 ⟨h.up, List.pairwise_singleton _ _, fun a ha b hb => ?_⟩, fun x hx => ?_, fun x hx => ?_⟩
  · obtain rfl : b = v := by simpa using hb
    have := h.le_last ha
    omega
  · rcases one hx with hx | rfl
    · exact h.at_ x hx
    · exact h2
  · rcases one hx with hx | rfl
    · exact h.no x hx
    · exact h3
theorem GdC.last {c : List (Ver Txt)} (h : GdC c) : 0 ≤ lastC c ∧ lastC c ≤ 1099511627776 := by
  rcases List.eq_nil_or_concat c with rfl | ⟨m, x, rfl⟩
  · exact ⟨Int.le_refl _, by decide⟩
  · have e : lastC (m.concat x) = x.1 := by unfold lastC; simp
    rw [e]
    have := h.at_ x (by simp)
    omega
theorem Gd.chain {rows : VRows Txt} (h : Gd rows) (k : Txt) : GdC (chainR rows k) := by
  by_cases hg : getK k rows = none
  · unfold chainR; rw [hg]; exact GdC.nil
  · exact h _ (chainR_mem hg)
theorem Gd.add {rows : VRows Txt} (h : Gd rows) {low : Int} {k : Txt} {v : Ver Txt} (hv : v.2.2 = true → v.2.1 = []) : Gd (addR rows low k v).2 := by
  unfold addR
  split
  · exact h
  · split
    · exact h
    · intro r hr
      rcases mem_putK hr with rfl | hr
      · exact (h.chain k).snoc (by omega) (by omega) hv
      · exact h r hr
/-- what is pruned is an end of the chain -/
theorem prunedC_drop (c : List (Ver Txt)) (low : Int) : ∃ d, prunedC c low = c.drop d ∧ (d = seenN c low - 1 ∨ d = seenN c low - 1 + 1) := by
  unfold prunedC
  cases h : c.drop (seenN c low - 1) with
  | nil => exact ⟨_, h.symm, .inl rfl⟩
  | cons v t =>
    show ∃ d, (if v.2.2 = true ∧ v.1 ≤ low then t else v :: t) = _ ∧ _
    split
    · refine ⟨seenN c low - 1 + 1, ?_, .inr rfl⟩
      rw [← List.drop_drop, h]; rfl
    · exact ⟨_, h.symm, .inl rfl⟩
theorem Gd.prune {rows : VRows Txt} (h : Gd rows) (low : Int) : Gd (rows.filterMap (prune1 low)) := by
  intro r hr
  obtain ⟨q, hq, he⟩ := List.mem_filterMap.1 hr
  rw [prune1_some he]
  obtain ⟨d, hd, _⟩ := prunedC_drop q.2 low
  show GdC (prunedC q.2 low)
  rw [hd]
  exact (h q hq).drop d
theorem Gd.pruneR {rows : VRows Txt} (h : Gd rows) (low low' : Int) : Gd (pruneR rows low low').2.1 := by
  unfold Go.Ez.pruneR
  split
  · exact h
  · exact h.prune low'
theorem pruneR_low {rows : VRows Txt} {low low' : Int} (h : 0 ≤ low ∧ low ≤ 1099511627776) : 0 ≤ (pruneR rows low low').2.2 ∧ (pruneR rows low low').2.2 ≤ 1099511627776 := by
  unfold pruneR
  split
  · exact h
  · simp only; omega
/-- how the document drops: one while the next one is not above low -/
theorem GdC.step {c : List (Ver Txt)} (h : GdC c) {low : Int} {d : Nat} {v : Ver Txt} (hv : c[d + 1]? = some v) (hle : v.1 ≤ low) : d + 1 ≤ seenN c low - 1 := by
  rcases Nat.lt_or_ge (d + 1) (seenN c low) with h1 | h1
  · omega
  · have := seenN_above h1 hv
    omega
theorem GdC.stop {c : List (Ver Txt)} (h : GdC c) {low : Int} {d : Nat} (hd : d ≤ seenN c low - 1) (hs : c.length ≤ d + 1 ∨ ∃ v, c[d + 1]? = some v ∧ low < v.1) : d = seenN c low - 1 := by
  have hle := seenN_le c low
  rcases hs with hs | ⟨v, hv, hlt⟩
  · omega
  · rcases Nat.lt_or_ge (d + 1) (seenN c low) with h1 | h1
    · obtain ⟨m, hm⟩ : ∃ m, seenN c low = m + 1 := ⟨seenN c low - 1, by omega⟩
      obtain ⟨u, hu⟩ : ∃ u, c[m]? = some u := ⟨_, List.getElem?_eq_getElem (by omega)⟩
      have a := seenN_at hm hu
      by_cases e : d + 1 = m
      · subst e; rw [hv] at hu; cases hu; omega
      · have := h.lt hv hu (by omega)
        omega
    · omega
/-- the document's answer at a time -/
theorem GdC.told {c : List (Ver Txt)} (h : GdC c) {t : Int} {n : Nat} {v : Ver Txt} (hn : seenN c t = n + 1) (hv : c[n]? = some v) : (toldC c t).getD default = v.2.1 ∧ (toldC c t).isSome = !v.2.2 := by
  unfold toldC
  rw [hn]
  simp only [hv]
  cases hg : v.2.2 with
  | false => simp
  | true =>
    have := h.no v (List.mem_of_getElem? hv) hg
    simp [this]
    rfl

section
variable {β : Type} {rows : VRows β}
theorem scanR_start (hs : Srt rows) (lo hi : Txt) (t : Int) : scanR (rows.take (posK lo rows)) lo hi t = [] := by
  unfold scanR
  rw [List.filterMap_eq_nil_iff]
  intro r hr
  obtain ⟨i, hi', he⟩ := List.getElem_of_mem hr
  rw [List.length_take] at hi'
  rw [List.getElem_take] at he
  have := posK_lt (k := lo) (m := rows) (i := i) (p := r) (by rw [List.getElem?_eq_getElem (by omega), he]) (by omega)
  unfold inR
  rw [this]; rfl
theorem scanR_stop (hs : Srt rows) {lo hi : Txt} {t : Int} {i : Nat} {r : Txt × List (Ver β)} (hi0 : hi ≠ []) (hr : rows[i]? = some r) (hlt : OKey.lt r.1 hi = false) : scanR (rows.take i) lo hi t = scanR rows lo hi t := by
  conv => rhs; rw [← List.take_append_drop i rows]
  unfold scanR
  rw [List.filterMap_append]
  have : (rows.drop i).filterMap (fun r => if inR lo hi r.1 then (toldC r.2 t).map fun x => (r.1, x) else none) = [] := by
    rw [List.filterMap_eq_nil_iff]
    intro q hq
    obtain ⟨j, hj, he⟩ := List.getElem_of_mem hq
    rw [List.length_drop] at hj
    rw [List.getElem_drop] at he
    have hr' := List.getElem?_eq_some_iff.1 hr
    have hno : OKey.lt q.1 hi = false := by
      cases j with
      | zero =>
        have : q = r := by rw [← he, ← hr'.2]; rfl
        rw [this]; exact hlt
      | succ j =>
        have := List.pairwise_iff_getElem.1 hs i (i + (j + 1)) hr'.1 (by omega) (by omega)
        rw [hr'.2, he] at this
        cases hx : OKey.lt q.1 hi with
        | false => rfl
        | true => have := OKey.tr this hx; rw [hlt] at this; cases this
    unfold inR
    rw [hno]
    cases hi with
    | nil => exact absurd rfl hi0
    | cons a b => simp
  rw [this, List.append_nil]
theorem scanR_take {lo hi : Txt} {t : Int} {i : Nat} {r : Txt × List (Ver β)} (hr : rows[i]? = some r) : scanR (rows.take (i + 1)) lo hi t = scanR (rows.take i) lo hi t ++ (if inR lo hi r.1 then ((toldC r.2 t).map fun x => (r.1, x)).toList else []) := by
  unfold scanR
  rw [List.take_add_one, hr, List.filterMap_append]
  congr 1
  show [r].filterMap _ = _
  cases hc : inR lo hi r.1 with
  | false => rw [List.filterMap_cons_none (by simp [hc])]; rfl
  | true =>
    cases ht : toldC r.2 t with
    | none => rw [List.filterMap_cons_none (by simp [hc, ht])]; rfl
    | some x => rw [List.filterMap_cons_some (b := (r.1, x)) (by simp [hc, ht])]; rfl
end
end Go.Ez
