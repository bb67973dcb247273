/-
  VERSIONS, plainly: numbers put one behind the other under one key; what is pruned of them. No program in sight.
-/
import Derived.Test.YtffnabbchghokaaVerQ
namespace Go.Ez
open Go
set_option linter.unusedSimpArgs false
set_option linter.unusedVariables false

/-- the key "n" -/
abbrev kN : Txt := [110]
/-- numbers put at 1, 2, .. -/
def numsC (l : List Int) : List (Ver Int) := l.mapIdx fun i x => ((i : Int) + 1, x, false)
theorem numsC_len (l : List Int) : (numsC l).length = l.length := by simp [numsC]
theorem numsC_at {l : List Int} {i : Nat} : (numsC l)[i]? = l[i]?.map fun x => ((i : Int) + 1, x, false) := by simp [numsC]
theorem numsC_snoc (l : List Int) (x : Int) : numsC (l ++ [x]) = numsC l ++ [((l.length : Int) + 1, x, false)] := by simp [numsC, List.mapIdx_append]
def numsR (l : List Int) : VRows Int := if l = [] then [] else [(kN, numsC l)]
theorem numsR_chain (l : List Int) : chainR (numsR l) kN = numsC l := by
  unfold numsR
  split
  · rename_i h; subst h; rfl
  · simp [chainR, getK]
theorem numsR_srt (l : List Int) : Srt (numsR l) := by
  unfold numsR
  split
  · exact List.Pairwise.nil
  · exact List.pairwise_singleton _ _
theorem numsC_last (l : List Int) : lastC (numsC l) = l.length := by
  unfold lastC
  rcases List.eq_nil_or_concat l with rfl | ⟨m, x, rfl⟩
  · rfl
  · rw [List.concat_eq_append, numsC_snoc, List.getLast?_append]
    simp
theorem numsR_put (l : List Int) (x : Int) (h : l.length < 1000) : addR (numsR l) 0 kN ((l.length : Int) + 1, x, false) = (0, numsR (l ++ [x])) := by
  unfold addR
  rw [numsR_chain, numsC_last, if_neg (by simp only; omega), if_neg (by simp only; omega)]
  have hne : l ++ [x] ≠ [] := by simp
  congr 1
  rw [← numsC_snoc]
  unfold numsR
  rw [if_neg hne]
  split
  · rfl
  · simp [putK, hasK, posK, OKey.irr]
theorem numsR_clash (l : List Int) (x : Int) (h : l.length < 1000) : addR (numsR l) 0 kN ((l.length : Int), x, false) = (if l = [] then 1 else 12, numsR l) := by
  unfold addR
  rw [numsR_chain, numsC_last]
  by_cases hl : l = []
  · subst hl; simp
  · have : 0 < l.length := List.length_pos_iff.2 hl
    rw [if_neg (by simp only; omega), if_pos (by simp only; omega), if_neg hl]
theorem numsR_count (l : List Int) : countR (numsR l) = l.length := by
  unfold numsR
  split
  · rename_i h; subst h; rfl
  · simp [countR, numsC_len]
theorem numsC_seen (l : List Int) (t : Int) : seenN (numsC l) t = min t.toNat l.length := by
  refine seenN_eq (by rw [numsC_len]; omega) (fun j v hj hv => ?_) fun j v hj hv => ?_
  · rw [numsC_at] at hv
    cases hl : l[j]? with
    | none => rw [hl] at hv; cases hv
    | some x =>
      rw [hl] at hv; cases hv
      have := (List.getElem?_eq_some_iff.1 hl).1
      simp only
      omega
  · rw [numsC_at] at hv
    cases hl : l[j]? with
    | none => rw [hl] at hv; cases hv
    | some x =>
      rw [hl] at hv; cases hv
      simp only
      omega
theorem numsC_pruned (l : List Int) (t : Int) : prunedC (numsC l) t = (numsC l).drop (min t.toNat l.length - 1) := by
  unfold prunedC
  rw [numsC_seen]
  have hg : ∀ v ∈ (numsC l).drop (min t.toNat l.length - 1), v.2.2 = false := by
    intro v hv
    have := List.mem_of_mem_drop hv
    simp only [numsC, List.mem_mapIdx] at this
    obtain ⟨i, _, rfl⟩ := this
    rfl
  generalize (numsC l).drop (min t.toNat l.length - 1) = m at hg
  cases m with
  | nil => rfl
  | cons v m =>
    show (if v.2.2 = true ∧ v.1 ≤ t then m else v :: m) = _
    rw [if_neg]
    rw [hg v List.mem_cons_self]
    simp
theorem numsC_told {l : List Int} {t : Int} (h0 : 1 ≤ t) (h1 : t ≤ l.length) : toldC (numsC l) t = l[(t - 1).toNat]? := by
  unfold toldC
  rw [numsC_seen]
  obtain ⟨n, hn⟩ : ∃ n, min t.toNat l.length = n + 1 := ⟨min t.toNat l.length - 1, by omega⟩
  rw [hn]
  have hnt : (t - 1).toNat = n := by omega
  rw [hnt]
  dsimp only
  rw [numsC_at]
  cases hl : l[n]? with
  | none =>
    have := List.getElem?_eq_none_iff.1 hl
    omega
  | some x => rfl
/-- the rows once pruned -/
def numsP (l : List Int) (low : Int) : VRows Int := if low ≤ 0 ∨ low > 1099511627776 then numsR l else (numsR l).filterMap (prune1 low)
def numsW (l : List Int) (low : Int) : Nat := if low ≤ 0 ∨ low > 1099511627776 then 0 else min low.toNat l.length - 1
theorem numsR_prune (l : List Int) (low : Int) : ∃ low', pruneR (numsR l) 0 low = (numsW l low, numsP l low, low') := by
  unfold pruneR numsW numsP
  split
  · exact ⟨_, rfl⟩
  · refine ⟨low, ?_⟩
    congr 1
    unfold numsR
    split
    · rename_i h; subst h; simp [countR]
    · rename_i hl
      have hpos : 0 < l.length := List.length_pos_iff.2 hl
      have hne : prunedC (numsC l) low ≠ [] := by
        rw [numsC_pruned]
        intro h
        have := congrArg List.length h
        rw [List.length_drop, numsC_len] at this
        simp at this
        omega
      rw [List.filterMap_cons_some (b := (kN, prunedC (numsC l) low)) (by
        unfold prune1
        rw [if_neg]
        simpa using hne)]
      simp [countR, numsC_pruned, numsC_len]
      omega
theorem numsP_chain (l : List Int) (low : Int) : chainR (numsP l low) kN = if low ≤ 0 ∨ low > 1099511627776 then numsC l else prunedC (numsC l) low := by
  unfold numsP
  split
  · exact numsR_chain l
  · unfold numsR
    split
    · rename_i h; subst h; rfl
    · have e : [(kN, numsC l)].filterMap (prune1 low) = (prune1 low (kN, numsC l)).toList := by
        cases h : prune1 low (kN, numsC l) with
        | none => rw [List.filterMap_cons_none h]; rfl
        | some s => rw [List.filterMap_cons_some h]; rfl
      rw [e]
      unfold prune1
      split
      · rename_i h
        have : prunedC (numsC l) low = [] := by simpa using h
        simp [chainR, getK, this]
      · simp [chainR, getK]
theorem numsP_told {l : List Int} {low t : Int} (h0 : low ≤ t ∨ low > 1099511627776) (h1 : 1 ≤ t) (h2 : t ≤ l.length) : toldC (chainR (numsP l low) kN) t = l[(t - 1).toNat]? := by
  rw [numsP_chain]
  split
  · exact numsC_told h1 h2
  · rename_i hc
    rw [toldC_pruned (by omega)]
    exact numsC_told h1 h2
theorem numsP_srt (l : List Int) (low : Int) : Srt (numsP l low) := by
  unfold numsP
  split
  · exact numsR_srt l
  · exact prune_srt (numsR_srt l) low
theorem numsR_bd (l : List Int) : Bd (l.length + 1) (numsR l) := by
  unfold numsR
  split
  · exact ⟨by simp, by simp⟩
  · exact ⟨by simp, by simp [numsC_len]⟩
theorem numsP_bd (l : List Int) (low : Int) : Bd (l.length + 1) (numsP l low) := by
  unfold numsP
  split
  · exact numsR_bd l
  · exact (numsR_bd l).prune low
theorem numsP_count (l : List Int) (low : Int) : countR (numsP l low) = l.length - numsW l low := by
  unfold numsP numsW
  split
  · rw [numsR_count]; rfl
  · unfold numsR
    split
    · rename_i h; subst h; simp [countR]
    · have e : [(kN, numsC l)].filterMap (prune1 low) = (prune1 low (kN, numsC l)).toList := by
        cases h : prune1 low (kN, numsC l) with
        | none => rw [List.filterMap_cons_none h]; rfl
        | some s => rw [List.filterMap_cons_some h]; rfl
      rw [e, prune1_count, numsC_pruned, List.length_drop, numsC_len]
theorem numsP_other (l : List Int) (low : Int) {k : Txt} (hk : k ≠ kN) : chainR (numsP l low) k = [] := by
  have h : ∀ r ∈ numsP l low, r.1 = kN := by
    intro r hr
    unfold numsP at hr
    have h0 : ∀ q ∈ numsR l, q.1 = kN := by
      intro q hq
      unfold numsR at hq
      split at hq
      · cases hq
      · simp at hq; rw [hq]
    split at hr
    · exact h0 r hr
    · obtain ⟨q, hq, he⟩ := List.mem_filterMap.1 hr
      rw [prune1_some he]
      exact h0 q hq
  unfold chainR
  cases hg : getK k (numsP l low) with
  | none => rfl
  | some c => exact absurd (h _ (getK_mem hg)) hk
end Go.Ez
