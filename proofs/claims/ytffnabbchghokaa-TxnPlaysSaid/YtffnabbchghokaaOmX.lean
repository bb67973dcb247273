/-
  MAPS IN ORDER, plainly: two maps merged. No program in sight.
-/
import Derived.Test.YtffnabbchghokaaOmP
namespace Go.Ez
open Go
set_option linter.unusedSimpArgs false
set_option linter.unusedVariables false

section
variable {κ β : Type} [OKey κ] [DecidableEq κ]
/-- the pairs of both, rising; where both have a key, the second one's -/
def mrg : List (κ × β) → List (κ × β) → List (κ × β)
  | [], ys => ys
  | x :: xs, [] => x :: xs
  | x :: xs, y :: ys => if OKey.lt x.1 y.1 then x :: mrg xs (y :: ys) else if x.1 = y.1 then y :: mrg xs ys else y :: mrg (x :: xs) ys
termination_by xs ys => xs.length + ys.length
theorem mrg_nil (xs : List (κ × β)) : mrg xs [] = xs := by cases xs <;> simp [mrg]
theorem mrg_len : ∀ (xs ys : List (κ × β)), (mrg xs ys).length ≤ xs.length + ys.length
  | [], ys => by simp [mrg]
  | x :: xs, [] => by simp [mrg]
  | x :: xs, y :: ys => by
    unfold mrg
    split
    · have := mrg_len xs (y :: ys); simp only [List.length_cons] at this ⊢; omega
    · split
      · have := mrg_len xs ys; simp only [List.length_cons] at this ⊢; omega
      · have := mrg_len (x :: xs) ys; simp only [List.length_cons] at this ⊢; omega
termination_by xs ys => xs.length + ys.length
theorem mrg_mem : ∀ {xs ys : List (κ × β)} {p : κ × β}, p ∈ mrg xs ys → p ∈ xs ∨ p ∈ ys
  | [], ys, p, h => by simp only [mrg] at h; exact .inr h
  | x :: xs, [], p, h => by simp only [mrg] at h; exact .inl h
  | x :: xs, y :: ys, p, h => by
    unfold mrg at h
    split at h
    · rcases List.mem_cons.1 h with rfl | h
      · exact .inl List.mem_cons_self
      · exact (mrg_mem h).imp (List.mem_cons_of_mem _) id
    · split at h
      · rcases List.mem_cons.1 h with rfl | h
        · exact .inr List.mem_cons_self
        · exact (mrg_mem h).imp (List.mem_cons_of_mem _) (List.mem_cons_of_mem _)
      · rcases List.mem_cons.1 h with rfl | h
        · exact .inr List.mem_cons_self
        · exact (mrg_mem h).imp id (List.mem_cons_of_mem _)
termination_by xs ys => xs.length + ys.length
theorem mrg_srt : ∀ {xs ys : List (κ × β)}, Srt xs → Srt ys → Srt (mrg xs ys)
  | [], ys, _, h => by simp only [mrg]; exact h
  | x :: xs, [], h, _ => by simp only [mrg]; exact h
  | x :: xs, y :: ys, hx, hy => by
    have hx' := List.pairwise_cons.1 hx
    have hy' := List.pairwise_cons.1 hy
    unfold mrg
    split
    · rename_i h1
      refine List.pairwise_cons.2 ⟨fun p hp => ?_, mrg_srt hx'.2 hy⟩
      rcases mrg_mem hp with hp | hp
      · exact hx'.1 p hp
      · rcases List.mem_cons.1 hp with rfl | hp
        · exact h1
        · exact OKey.tr h1 (hy'.1 p hp)
    · rename_i h1
      split
      · rename_i h2
        refine List.pairwise_cons.2 ⟨fun p hp => ?_, mrg_srt hx'.2 hy'.2⟩
        rcases mrg_mem hp with hp | hp
        · rw [← h2]; exact hx'.1 p hp
        · exact hy'.1 p hp
      · rename_i h2
        have h3 : OKey.lt y.1 x.1 = true := by
          cases h : OKey.lt y.1 x.1 with
          | true => rfl
          | false => exact absurd (OKey.tot (by simpa using h1) h) h2
        refine List.pairwise_cons.2 ⟨fun p hp => ?_, mrg_srt hx hy'.2⟩
        rcases mrg_mem hp with hp | hp
        · rcases List.mem_cons.1 hp with rfl | hp
          · exact h3
          · exact OKey.tr h3 (hx'.1 p hp)
        · exact hy'.1 p hp
termination_by xs ys => xs.length + ys.length
theorem getK_less {k : κ} {m : List (κ × β)} (h : ∀ p ∈ m, OKey.lt k p.1 = true) : getK k m = none := by
  cases hg : getK k m with
  | none => rfl
  | some v => have := h _ (getK_mem hg); rw [OKey.irr] at this; cases this
theorem mrg_get {k : κ} : ∀ {xs ys : List (κ × β)}, Srt xs → Srt ys → getK k (mrg xs ys) = (getK k ys).or (getK k xs)
  | [], ys, _, h => by simp [mrg, getK]
  | x :: xs, [], h, _ => by simp [mrg, getK]
  | x :: xs, y :: ys, hx, hy => by
    have hx' := List.pairwise_cons.1 hx
    have hy' := List.pairwise_cons.1 hy
    unfold mrg
    split
    · rename_i h1
      have ih := mrg_get (k := k) hx'.2 hy
      by_cases hk : x.1 = k
      · subst hk
        have : getK x.1 (y :: ys) = none := getK_less fun p hp => by
          rcases List.mem_cons.1 hp with rfl | hp
          · exact h1
          · exact OKey.tr h1 (hy'.1 p hp)
        rw [this]; simp [getK]
      · rw [getK, if_neg hk, ih, show getK k (x :: xs) = getK k xs by rw [getK, if_neg hk]]
    · rename_i h1
      split
      · rename_i h2
        have ih := mrg_get (k := k) hx'.2 hy'.2
        by_cases hk : y.1 = k
        · simp [getK, hk]
        · have hk' : ¬ x.1 = k := fun h => hk (h2 ▸ h)
          simp only [getK, if_neg hk, if_neg hk', ih]
      · have ih := mrg_get (k := k) hx hy'.2
        by_cases hk : y.1 = k
        · simp [getK, hk]
        · rw [getK, if_neg hk, ih, show getK k (y :: ys) = getK k ys by rw [getK, if_neg hk]]
termination_by xs ys => xs.length + ys.length
/-- what comes first -/
theorem mrg_x {x : κ × β} {xs ys : List (κ × β)} (h : ys = [] ∨ ∃ y t, ys = y :: t ∧ OKey.lt x.1 y.1 = true) : mrg (x :: xs) ys = x :: mrg xs ys := by
  rcases h with rfl | ⟨y, t, rfl, h⟩
  · rw [mrg_nil, mrg_nil]
  · rw [mrg, if_pos h]
theorem mrg_b {x y : κ × β} {xs ys : List (κ × β)} (h : x.1 = y.1) : mrg (x :: xs) (y :: ys) = y :: mrg xs ys := by
  rw [mrg, if_neg (by rw [h, OKey.irr]; simp), if_pos h]
theorem mrg_y {y : κ × β} {xs ys : List (κ × β)} (h : xs = [] ∨ ∃ x t, xs = x :: t ∧ OKey.lt x.1 y.1 = false ∧ x.1 ≠ y.1) : mrg xs (y :: ys) = y :: mrg xs ys := by
  rcases h with rfl | ⟨x, t, rfl, h1, h2⟩
  · simp [mrg]
  · rw [mrg, if_neg (by rw [h1]; simp), if_neg h2]
end
end Go.Ez
