/-
  DIFFERENCES, plainly: what turned from one map to another. No program in sight.
-/
import Derived.Test.YtdjgchofnkancaaOmX
namespace Go.Ez
open Go
set_option linter.unusedSimpArgs false
set_option linter.unusedVariables false

section
variable {α γ : Type}
/-- what is told of a list, one behind the other -/
theorem fmap_at {q : α → Option γ} {l : List α} {i : Nat} {a : α} (h : l[i]? = some a) :
    (∀ y, q a = some y → (l.filterMap q)[((l.take i).filterMap q).length]? = some y ∧ ((l.take (i + 1)).filterMap q).length = ((l.take i).filterMap q).length + 1) ∧ (q a = none → ((l.take (i + 1)).filterMap q).length = ((l.take i).filterMap q).length) := by
  have hil := (List.getElem?_eq_some_iff.1 h).1
  have e1 : l.take (i + 1) = l.take i ++ [a] := by rw [List.take_add_one, h]; rfl
  have e2 : l = l.take i ++ a :: l.drop (i + 1) := by
    have := (List.take_append_drop i l).symm
    rw [List.drop_eq_getElem_cons hil, (List.getElem?_eq_some_iff.1 h).2] at this
    exact this
  refine ⟨fun y hy => ⟨?_, ?_⟩, fun hn => ?_⟩
  · conv => lhs; rw [e2]
    rw [List.filterMap_append, List.getElem?_append_right (by rw [List.take_append_of_le_length (by rw [List.length_take]; omega), List.take_take, Nat.min_self]; exact Nat.le_refl _)]
    rw [List.take_append_of_le_length (by rw [List.length_take]; omega), List.take_take, Nat.min_self, Nat.sub_self, List.filterMap_cons_some hy]
    rfl
  · rw [e1, List.filterMap_append, List.length_append, List.filterMap_cons_some hy]; rfl
  · rw [e1, List.filterMap_append, List.length_append, List.filterMap_cons_none hn]; rfl
theorem fmap_le {q : α → Option γ} (l : List α) (i : Nat) : ((l.take i).filterMap q).length ≤ (l.filterMap q).length := by
  conv => rhs; rw [← List.take_append_drop i l, List.filterMap_append, List.length_append]
  omega
end

section
variable {κ β : Type} [OKey κ] [DecidableEq κ] [DecidableEq β] [Inhabited β]
/-- what turned of one key: its value then, whether it is gone -/
def chg (o n : Option β) : Option (β × Bool) := if o.isSome = n.isSome ∧ o.getD default = n.getD default then none else some (n.getD default, !n.isSome)
theorem chg_none {o n : Option β} : chg o n = none ↔ o = n := by
  unfold chg
  cases o <;> cases n <;> simp
theorem chg_some {o n : Option β} {c : β × Bool} (h : chg o n = some c) : c = (n.getD default, !n.isSome) := by
  unfold chg at h
  split at h
  · cases h
  · cases h; rfl
theorem chg_comm {o n : Option β} : (chg o n).isSome = (chg n o).isSome := by
  unfold chg
  by_cases h : o.isSome = n.isSome ∧ o.getD default = n.getD default
  · rw [if_pos h, if_pos ⟨h.1.symm, h.2.symm⟩]
  · rw [if_neg h, if_neg fun h' => h ⟨h'.1.symm, h'.2.symm⟩]; rfl
/-- one key's change -/
def ch1 (a b : List (κ × β)) (k : κ) : Option (κ × β × Bool) := (chg (getK k a) (getK k b)).map fun c => (k, c)
/-- what turned from a to b -/
def dff (a b : List (κ × β)) : List (κ × β × Bool) := (mrg a b).filterMap fun p => ch1 a b p.1
theorem dff_le (a b : List (κ × β)) : (dff a b).length ≤ a.length + b.length := Nat.le_trans (List.length_filterMap_le ..) (mrg_len a b)
/-- the keys alone -/
theorem dff_keys (a b : List (κ × β)) : dff a b = ((mrg a b).map Prod.fst).filterMap (ch1 a b) := by
  unfold dff
  rw [List.filterMap_map]; rfl
end

section
variable {κ β γ : Type} [OKey κ] [DecidableEq κ]
omit [OKey κ] in
theorem getK_fst {k : κ} {m : List (κ × β)} : (getK k (m.map fun p => (p.1, ()))) = (getK k m).map fun _ => () := by
  induction m with
  | nil => simp [getK]
  | cons p m ih =>
    simp only [List.map_cons, getK]
    split
    · rfl
    · exact ih
omit [DecidableEq κ] in
theorem srt_fst {m : List (κ × β)} (h : Srt m) : Srt (m.map fun p => (p.1, ())) := by
  unfold Srt at h ⊢
  rw [List.pairwise_map]
  exact h
/-- maps of like keys -/
theorem keys_ext {m : List (κ × β)} {n : List (κ × γ)} (hm : Srt m) (hn : Srt n) (h : ∀ k, (getK k m).isSome = (getK k n).isSome) : m.map Prod.fst = n.map Prod.fst := by
  have h1 : (m.map fun p => (p.1, ())) = n.map fun p => (p.1, ()) := by
    refine srt_ext (srt_fst hm) (srt_fst hn) fun k => ?_
    rw [getK_fst, getK_fst]
    have := h k
    cases h1 : getK k m <;> cases h2 : getK k n <;> rw [h1, h2] at this <;> simp at this ⊢
  have h2 := congrArg (List.map Prod.fst) h1
  simpa [List.map_map, Function.comp_def] using h2
end
end Go.Ez
