/-
  EZ: rows of cells: a list of things, each of so many cells, one behind the other.
-/
import Derived.Test.YtlflpbflpcmckaaDoorOmP
namespace Go.Ez
open Go
set_option linter.unusedSimpArgs false
set_option linter.unusedVariables false

section
variable {α : Type} {f : α → List Value} {sz : Nat}
def rcells (f : α → List Value) (l : List α) : List Value := l.flatMap f
theorem rc_nil : rcells f [] = [] := rfl
theorem rc_cons (a : α) (l : List α) : rcells f (a :: l) = f a ++ rcells f l := List.flatMap_cons ..
theorem rc_single (a : α) : rcells f [a] = f a := by simp [rcells]
theorem rc_append (a b : List α) : rcells f (a ++ b) = rcells f a ++ rcells f b := by simp [rcells]
theorem rc_length (hf : ∀ a, (f a).length = sz) : ∀ l : List α, (rcells f l).length = l.length * sz
  | [] => by simp [rcells]
  | a :: l => by rw [rc_cons, List.length_append, hf, rc_length hf l, List.length_cons, Nat.succ_mul, Nat.add_comm]
theorem rc_get (hf : ∀ a, (f a).length = sz) : ∀ {l : List α} {i j : Nat} {o : α}, l[i]? = some o → j < sz → (rcells f l)[i * sz + j]? = (f o)[j]?
  | o :: l, 0, j, _, h, hj => by
    cases h
    rw [rc_cons, Nat.zero_mul, Nat.zero_add, List.getElem?_append_left (by rw [hf]; exact hj)]
  | o :: l, i + 1, j, q, h, hj => by
    have := rc_get hf (l := l) (i := i) (by simpa using h) hj
    have e : (i + 1) * sz + j = sz + (i * sz + j) := by rw [Nat.succ_mul]; omega
    rw [rc_cons, e, List.getElem?_append_right (by rw [hf]; omega), hf, Nat.add_sub_cancel_left]
    exact this
theorem rc_take (hf : ∀ a, (f a).length = sz) : ∀ (l : List α) (i : Nat), rcells f (l.take i) = (rcells f l).take (i * sz)
  | [], i => by simp [rcells]
  | a :: l, 0 => by simp [rcells]
  | a :: l, i + 1 => by
    rw [List.take_succ_cons, rc_cons, rc_cons, rc_take hf l i, Nat.succ_mul, Nat.add_comm (i * sz) sz, ← hf a, List.take_length_add_append]
theorem rc_drop (hf : ∀ a, (f a).length = sz) : ∀ (l : List α) (i : Nat), rcells f (l.drop i) = (rcells f l).drop (i * sz)
  | [], i => by simp [rcells]
  | a :: l, 0 => by simp
  | a :: l, i + 1 => by
    rw [List.drop_succ_cons, rc_cons, rc_drop hf l i, Nat.succ_mul, Nat.add_comm (i * sz) sz, ← hf a, List.drop_length_add_append]
theorem rc_one (h1 : ∀ a, ∀ c ∈ f a, c.oneCell' = true) (l : List α) : ∀ c ∈ rcells f l, c.oneCell' = true := by
  intro c hc
  unfold rcells at hc
  rw [List.mem_flatMap] at hc
  obtain ⟨d, _, hd⟩ := hc
  exact h1 d c hd
theorem rc_step {l : List α} {i : Nat} {a : α} (h : l[i]? = some a) : rcells f (l.take i) ++ f a = rcells f (l.take (i + 1)) := by
  rw [List.take_add_one, h, rc_append]
  show _ = _ ++ rcells f [a]
  rw [rc_single]
end
end Go.Ez
