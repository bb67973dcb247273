/-
  VERSIONS, plainly: what is to be seen at a time stays, whatever is put behind it, and when less is pruned. No program in sight.
-/
import Derived.Test.YtffnabbchghokaaVerQ
namespace Go.Ez
open Go
set_option linter.unusedSimpArgs false
set_option linter.unusedVariables false
section
variable {β : Type} {rows : VRows β}
theorem chainR_put {k j : Txt} {c : List (Ver β)} (hs : Srt rows) : chainR (putK k c rows) j = if j = k then c else chainR rows j := by
  unfold chainR
  rw [get_put hs]
  split <;> rfl
theorem chainR_row {r : Txt × List (Ver β)} (hs : Srt rows) (h : r ∈ rows) : chainR rows r.1 = r.2 := by
  unfold chainR
  rw [(mem_iff_get hs).1 (show (r.1, r.2) ∈ rows from h)]; rfl
theorem getK_filterMap {γ : Type} {g : List (Ver β) → Option γ} {c : Txt → Bool} (hg : g [] = none) (hs : Srt rows) (k : Txt) :
    getK k (rows.filterMap fun r => if c r.1 then (g r.2).map fun x => (r.1, x) else none) = if c k then g (chainR rows k) else none := by
  induction rows with
  | nil => simp [getK, chainR, hg]
  | cons r rows ih =>
    have hs' := List.pairwise_cons.1 hs
    have ih := ih hs'.2
    have hne : k = r.1 → ∀ y, getK k (rows.filterMap fun r => if c r.1 then (g r.2).map fun x => (r.1, x) else none) ≠ some y := by
      intro e y h
      obtain ⟨q, hq, he⟩ := List.mem_filterMap.1 (getK_mem h)
      split at he
      · cases hgq : g q.2 with
        | none => rw [hgq] at he; cases he
        | some z =>
          rw [hgq] at he
          have e1 : q.1 = k := by
            simp only [Option.map_some, Option.some.injEq, Prod.mk.injEq] at he
            exact he.1
          have := hs'.1 q hq
          rw [e1, e, OKey.irr] at this; cases this
      · cases he
    have hcons : chainR (r :: rows) k = if r.1 = k then r.2 else chainR rows k := by
      unfold chainR
      rw [getK]
      split <;> rfl
    rw [hcons]
    by_cases e : r.1 = k
    · subst e
      rw [if_pos rfl]
      cases hc : c r.1 with
      | false =>
        rw [List.filterMap_cons_none (by simp [hc])]
        simp only [Bool.false_eq_true, if_false]
        cases hgk : getK r.1 (rows.filterMap fun r => if c r.1 then (g r.2).map fun x => (r.1, x) else none) with
        | none => rfl
        | some y => exact absurd hgk (hne rfl y)
      | true =>
        cases hgr : g r.2 with
        | none =>
          rw [List.filterMap_cons_none (by simp [hc, hgr])]
          simp only [if_true]
          cases hgk : getK r.1 (rows.filterMap fun r => if c r.1 then (g r.2).map fun x => (r.1, x) else none) with
          | none => rfl
          | some y => exact absurd hgk (hne rfl y)
        | some x =>
          rw [List.filterMap_cons_some (b := (r.1, x)) (by simp [hc, hgr])]
          simp [getK]
    · rw [if_neg e, ← ih]
      cases hc : (if c r.1 then (g r.2).map fun x => (r.1, x) else none) with
      | none => rw [List.filterMap_cons_none (f := fun r : Txt × List (Ver β) => if c r.1 then (g r.2).map fun x => (r.1, x) else none) hc]
      | some y =>
        rw [List.filterMap_cons_some (f := fun r : Txt × List (Ver β) => if c r.1 then (g r.2).map fun x => (r.1, x) else none) hc]
        have e1 : y.1 = r.1 := by
          split at hc
          · cases hgr : g r.2 with
            | none => rw [hgr] at hc; cases hc
            | some z => rw [hgr] at hc; cases hc; rfl
          · cases hc
        show (if y.1 = k then _ else _) = _
        rw [if_neg (by rw [e1]; exact e)]
theorem toldC_nil (t : Int) : toldC ([] : List (Ver β)) t = none := rfl
/-- a key's value, told -/
theorem scanR_get (hs : Srt rows) (lo hi : Txt) (t : Int) (k : Txt) : getK k (scanR rows lo hi t) = if inR lo hi k then toldC (chainR rows k) t else none :=
  getK_filterMap (g := fun l => toldC l t) (c := inR lo hi) (toldC_nil t) hs k
theorem scanR_srt (hs : Srt rows) (lo hi : Txt) (t : Int) : Srt (scanR rows lo hi t) := by
  unfold Srt scanR
  rw [List.pairwise_filterMap]
  refine List.Pairwise.imp ?_ hs
  intro p q hpq b hb b' hb'
  have key : ∀ {r : Txt × List (Ver β)} {s : Txt × β}, (if inR lo hi r.1 then (toldC r.2 t).map fun x => (r.1, x) else none) = some s → s.1 = r.1 := by
    intro r s h
    split at h
    · cases hg : toldC r.2 t with
      | none => rw [hg] at h; cases h
      | some z => rw [hg] at h; cases h; rfl
    · cases h
  rw [key hb, key hb']
  exact hpq
theorem scanR_len (lo hi : Txt) (t : Int) : (scanR rows lo hi t).length ≤ rows.length := List.length_filterMap_le _ _
/-- two stores that tell each key alike -/
theorem scanR_ext {rows' : VRows β} (hs : Srt rows) (hs' : Srt rows') {lo hi : Txt} {t : Int} (h : ∀ k, inR lo hi k = true → toldC (chainR rows k) t = toldC (chainR rows' k) t) : scanR rows lo hi t = scanR rows' lo hi t := by
  refine srt_ext (scanR_srt hs lo hi t) (scanR_srt hs' lo hi t) fun k => ?_
  rw [scanR_get hs, scanR_get hs']
  split
  · rename_i hk; exact h k hk
  · rfl
theorem prune1_eq (low : Int) : (fun r : Txt × List (Ver β) => prune1 low r) = fun r => if true then (if (prunedC r.2 low).isEmpty then none else some (prunedC r.2 low)).map fun x => (r.1, x) else none := by
  funext r
  unfold prune1
  split <;> rfl
theorem chainR_prune (hs : Srt rows) (low : Int) (k : Txt) : chainR (rows.filterMap (prune1 low)) k = prunedC (chainR rows k) low := by
  have h := getK_filterMap (rows := rows) (g := fun l => if (prunedC l low).isEmpty then none else some (prunedC l low)) (c := fun _ => true) rfl hs k
  have e : (rows.filterMap (prune1 low)) = rows.filterMap fun r => if true then (if (prunedC r.2 low).isEmpty then none else some (prunedC r.2 low)).map fun x => (r.1, x) else none := by
    rw [← prune1_eq]
  unfold chainR at h ⊢
  rw [e]
  rw [show (getK k (rows.filterMap fun r => if true then (if (prunedC r.2 low).isEmpty then none else some (prunedC r.2 low)).map fun x => (r.1, x) else none)) = _ from h]
  simp only [if_true]
  split
  · rename_i h1
    have : prunedC ((getK k rows).getD []) low = [] := by simpa using h1
    rw [this]; rfl
  · rfl
theorem scanR_add (hs : Srt rows) {low t : Int} {k : Txt} {v : Ver β} (h : t < v.1) (lo hi : Txt) : scanR (addR rows low k v).2 lo hi t = scanR rows lo hi t := by
  refine scanR_ext (addR_srt hs low k v) hs fun j _ => ?_
  unfold addR
  split
  · rfl
  · split
    · rfl
    · simp only
      rw [chainR_put hs]
      split
      · rename_i e
        subst e
        rw [toldC_snoc h]
      · rfl
theorem pruneR_srt (hs : Srt rows) (low low' : Int) : Srt (pruneR rows low low').2.1 := by
  unfold pruneR
  split
  · exact hs
  · exact prune_srt hs low'
theorem pruneR_bd {n : Nat} (h : Bd n rows) (low low' : Int) : Bd n (pruneR rows low low').2.1 := by
  unfold pruneR
  split
  · exact h
  · exact h.prune low'
theorem scanR_prune (hs : Srt rows) {low low' t : Int} (h : low' ≤ t) (lo hi : Txt) : scanR (pruneR rows low low').2.1 lo hi t = scanR rows lo hi t := by
  refine scanR_ext (pruneR_srt hs low low') hs fun j _ => ?_
  unfold pruneR
  split
  · rfl
  · rw [chainR_prune hs, toldC_pruned h]
theorem inR_all (k : Txt) : inR [] [] k = true := by
  have : OKey.lt k ([] : Txt) = false := by cases k <;> rfl
  unfold inR
  rw [this]; rfl
/-- each pair told is what Get tells -/
theorem scanR_told (hs : Srt rows) {t : Int} {p : Txt × β} (h : p ∈ scanR rows [] [] t) : toldC (chainR rows p.1) t = some p.2 := by
  have := (mem_iff_get (scanR_srt hs [] [] t)).1 (show (p.1, p.2) ∈ _ from h)
  rw [scanR_get hs, inR_all, if_pos rfl] at this
  exact this
end
end Go.Ez
