/-
  VERSIONS, plainly: rows that stay in order, how many there are, a row in the middle turned; numbers put one behind the other. No program in sight.
-/
import Derived.Test.YtffnabbchghokaaVerP
namespace Go.Ez
open Go
set_option linter.unusedSimpArgs false
set_option linter.unusedVariables false

section
variable {κ β : Type} [OKey κ]
open OKey
theorem posK_mid {A B : List (κ × β)} {k : κ} {v : β} (hs : Srt (A ++ (k, v) :: B)) : posK k (A ++ (k, v) :: B) = A.length := by
  have h := List.pairwise_append.1 hs
  have hA : ∀ p ∈ A, lt p.1 k = true := fun p hp => h.2.2 p hp (k, v) List.mem_cons_self
  clear hs h
  induction A with
  | nil => show posK k ((k, v) :: B) = 0; unfold posK; rw [irr, if_neg (by decide)]
  | cons p A ih =>
    show posK k (p :: (A ++ (k, v) :: B)) = _
    unfold posK
    rw [if_pos (hA p List.mem_cons_self), ih fun q hq => hA q (List.mem_cons_of_mem _ hq)]; rfl
variable [DecidableEq κ]
theorem hasK_mid {A B : List (κ × β)} {k : κ} {v : β} (hs : Srt (A ++ (k, v) :: B)) : hasK k (A ++ (k, v) :: B) = true :=
  hasK_spec.2 ⟨v, by rw [posK_mid hs]; simp⟩
theorem putK_mid {A B : List (κ × β)} {k : κ} {v u : β} (hs : Srt (A ++ (k, v) :: B)) : putK k u (A ++ (k, v) :: B) = A ++ (k, u) :: B := by
  unfold putK
  rw [if_pos (hasK_mid hs), posK_mid hs]
  simp
theorem delK_mid {A B : List (κ × β)} {k : κ} {v : β} (hs : Srt (A ++ (k, v) :: B)) : delK k (A ++ (k, v) :: B) = A ++ B := by
  unfold delK
  rw [if_pos (hasK_mid hs), posK_mid hs]
  simp
theorem putK_len_le (k : κ) (v : β) (m : List (κ × β)) : (putK k v m).length ≤ m.length + 1 := by
  have := posK_le k m
  unfold putK
  split <;> simp; omega
theorem mem_putK {k : κ} {v : β} {m : List (κ × β)} {p : κ × β} (h : p ∈ putK k v m) : p = (k, v) ∨ p ∈ m := by
  unfold putK at h
  split at h
  · rcases List.mem_or_eq_of_mem_set h with h | h
    · exact .inr h
    · exact .inl h
  · simp only [List.mem_append, List.mem_cons] at h
    rcases h with h | h | h
    · exact .inr (List.mem_of_mem_take h)
    · exact .inl h
    · exact .inr (List.mem_of_mem_drop h)
end

section
variable {β : Type}
/-- n bounds the rows and each chain -/
def Bd (n : Nat) (rows : VRows β) : Prop := rows.length ≤ n ∧ ∀ r ∈ rows, r.2.length ≤ n
theorem Bd.mono {n m : Nat} {rows : VRows β} (h : Bd n rows) (hm : n ≤ m) : Bd m rows := ⟨Nat.le_trans h.1 hm, fun r hr => Nat.le_trans (h.2 r hr) hm⟩
theorem chainR_mem {rows : VRows β} {k : Txt} (h : getK k rows ≠ none) : (k, chainR rows k) ∈ rows := by
  unfold chainR
  cases hg : getK k rows with
  | none => exact absurd hg h
  | some l => exact getK_mem hg
theorem Bd.chain {n : Nat} {rows : VRows β} (h : Bd n rows) (k : Txt) : (chainR rows k).length ≤ n := by
  by_cases hg : getK k rows = none
  · unfold chainR; rw [hg]; exact Nat.zero_le _
  · exact h.2 _ (chainR_mem hg)
theorem Bd.add {n : Nat} {rows : VRows β} (h : Bd n rows) (low : Int) (k : Txt) (v : Ver β) : Bd (n + 1) (addR rows low k v).2 := by
  unfold addR
  split
  · exact h.mono (by omega)
  · split
    · exact h.mono (by omega)
    · refine ⟨Nat.le_trans (putK_len_le ..) (by have := h.1; omega), fun r hr => ?_⟩
      rcases mem_putK hr with rfl | hr
      · have := h.chain k
        simp; omega
      · have := h.2 r hr; omega
theorem addR_srt {rows : VRows β} (h : Srt rows) (low : Int) (k : Txt) (v : Ver β) : Srt (addR rows low k v).2 := by
  unfold addR
  split
  · exact h
  · split
    · exact h
    · exact srt_put h
theorem prunedC_len (l : List (Ver β)) (low : Int) : (prunedC l low).length ≤ l.length := by
  unfold prunedC
  have h1 : (l.drop (seenN l low - 1)).length ≤ l.length := by rw [List.length_drop]; omega
  generalize l.drop (seenN l low - 1) = m at h1
  cases m with
  | nil => exact h1
  | cons v m =>
    show (if v.2.2 = true ∧ v.1 ≤ low then m else v :: m).length ≤ _
    split
    · simp at h1; omega
    · exact h1
theorem prune1_some {low : Int} {r s : Txt × List (Ver β)} (h : prune1 low r = some s) : s = (r.1, prunedC r.2 low) := by
  unfold prune1 at h
  split at h
  · cases h
  · cases h; rfl
theorem Bd.prune {n : Nat} {rows : VRows β} (h : Bd n rows) (low : Int) : Bd n (rows.filterMap (prune1 low)) := by
  refine ⟨Nat.le_trans (List.length_filterMap_le _ _) h.1, fun r hr => ?_⟩
  obtain ⟨q, hq, he⟩ := List.mem_filterMap.1 hr
  rw [prune1_some he]
  exact Nat.le_trans (prunedC_len _ _) (h.2 q hq)
theorem prune_srt {rows : VRows β} (h : Srt rows) (low : Int) : Srt (rows.filterMap (prune1 low)) := by
  unfold Srt
  rw [List.pairwise_filterMap]
  refine List.Pairwise.imp ?_ h
  intro p q hpq b hb b' hb'
  rw [prune1_some hb, prune1_some hb']
  exact hpq
theorem countR_bd {n : Nat} : ∀ {rows : VRows β}, (∀ r ∈ rows, r.2.length ≤ n) → countR rows ≤ rows.length * n
  | [], _ => by simp [countR]
  | r :: rows, h => by
    have h1 := countR_bd (rows := rows) fun q hq => h q (List.mem_cons_of_mem _ hq)
    have h2 := h r List.mem_cons_self
    unfold countR at *
    rw [List.map_cons, List.sum_cons, List.length_cons, Nat.succ_mul]
    omega
theorem countR_append (a b : VRows β) : countR (a ++ b) = countR a + countR b := by simp [countR]
theorem countR_cons (r : Txt × List (Ver β)) (b : VRows β) : countR (r :: b) = r.2.length + countR b := by simp [countR]
theorem prune_count (low : Int) : ∀ (rows : VRows β), countR (rows.filterMap (prune1 low)) ≤ countR rows
  | [] => Nat.le_refl _
  | r :: rows => by
    have ih := prune_count low rows
    rw [countR_cons]
    cases h : prune1 low r with
    | none => rw [List.filterMap_cons_none h]; omega
    | some s =>
      rw [List.filterMap_cons_some h, countR_cons, prune1_some h]
      have := prunedC_len r.2 low
      simp only
      omega
/-- what one row loses -/
theorem prune1_count (low : Int) (r : Txt × List (Ver β)) : countR (prune1 low r).toList = (prunedC r.2 low).length := by
  unfold prune1
  split
  · rename_i h
    have : prunedC r.2 low = [] := by simpa using h
    rw [this]; rfl
  · simp [countR]
/-- how many versions the first rows lose -/
def lostR (low' : Int) (rows : VRows β) (i : Nat) : Nat := countR (rows.take i) - countR ((rows.take i).filterMap (prune1 low'))
end
end Go.Ez
