/-
  MAPS IN ORDER, plainly: the pairs of keys from one on, below another. No program in sight.
-/
import Derived.Test.YtffnabbchghokaaOmP
namespace Go.Ez
open Go
set_option linter.unusedVariables false
theorem filter_none {κ β : Type} [OKey κ] {lo hi k : κ} : ∀ {m : List (κ × β)}, (∀ p ∈ m, OKey.lt k p.1 = true) → OKey.lt k hi = false → m.filter (fun p => !OKey.lt p.1 lo && OKey.lt p.1 hi) = []
  | [], _, _ => rfl
  | p :: m, h, hk => by
    have hp := h p (by simp)
    have : OKey.lt p.1 hi = false := by
      cases hx : OKey.lt p.1 hi with
      | false => rfl
      | true => have := OKey.tr hp hx; rw [hk] at this; cases this
    rw [List.filter_cons_of_neg (by rw [this]; simp)]
    exact filter_none (fun q hq => h q (by simp [hq])) hk
/-- the pairs of keys from lo on, below hi -/
theorem range_filter {κ β : Type} [OKey κ] (lo hi : κ) : ∀ {m : List (κ × β)}, Srt m → (m.take (max (posK lo m) (posK hi m))).drop (posK lo m) = m.filter (fun p => !OKey.lt p.1 lo && OKey.lt p.1 hi)
  | [], _ => by simp
  | p :: m, hs => by
    have hs' := List.pairwise_cons.1 hs
    have ih := range_filter lo hi (m := m) hs'.2
    have nolo : OKey.lt p.1 lo = false → ∀ q ∈ m, OKey.lt q.1 lo = false := fun hp q hq => by
      cases hx : OKey.lt q.1 lo with
      | false => rfl
      | true => have := OKey.tr (hs'.1 q hq) hx; rw [hp] at this; cases this
    cases h1 : OKey.lt p.1 lo <;> cases h2 : OKey.lt p.1 hi <;> simp only [posK, h1, h2, if_true, Bool.false_eq_true, if_false]
    · rw [List.filter_cons_of_neg (by rw [h2]; simp), filter_none (k := p.1) hs'.1 h2]
      simp
    · rw [List.filter_cons_of_pos (by rw [h1, h2]; rfl)]
      have h0 : posK lo m = 0 := by
        cases m with
        | nil => rfl
        | cons q m => unfold posK; rw [nolo h1 q (by simp)]; rfl
      rw [h0] at ih
      simp only [Nat.zero_max, List.drop_zero] at ih ⊢
      rw [List.take_succ_cons, ih]
    · rw [List.filter_cons_of_neg (by rw [h1]; simp), filter_none (k := p.1) hs'.1 h2]
      rw [Nat.max_eq_left (Nat.zero_le _), List.drop_take]
      simp
    · rw [List.filter_cons_of_neg (by rw [h1]; simp), ← ih]
      rw [show max (posK lo m + 1) (posK hi m + 1) = max (posK lo m) (posK hi m) + 1 by omega, List.take_succ_cons, List.drop_succ_cons]
end Go.Ez
