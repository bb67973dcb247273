/-
  EZ: a list of slices kept, each to be read; pairs put in one behind the other.
-/
import Derived.Test.YtdjgchofnkancaaEzMap
import Derived.Test.YtdjgchofnkancaaOmOv
namespace Go.Ez
open Go Go.Proofs Go.RowKit
set_option linter.unusedSimpArgs false
set_option linter.unusedVariables false

section
variable {w0 W : World} {G : Nat → Prop} {l R : List As}
/-- slices kept -/
def Kp (e : TypeId) (zs : List (Value × List Value)) (_ : Nat) : As := As.all True (zs.map fun z => Ky z.1 (Ow e 1 z.2.length z.2))
theorem sepL_mem {A : As} {w : World} : ∀ {L : List As} {F : Nat → Prop}, A ∈ L → sepL L F w → ∃ F', A.p F' w
  | B :: L, F, hm, ⟨F1, F2, h1, h2, _⟩ => by
    rcases List.mem_cons.1 hm with rfl | hm
    · exact ⟨F1, h1⟩
    · exact sepL_mem hm h2
theorem St.kpNil {e : TypeId} (h : St w0 G l W) : St w0 G (Ky 0 (Kp e []) :: l) W := St.shutA (L := []) trivial h
theorem St.kpGet {e : TypeId} {zs : List (Value × List Value)} {k : Nat} {v : Value} {xs : List Value} [i : Has l k (Kp e zs) R] (h : St w0 G l W) (hz : (v, xs) ∈ zs) : Sl W 1 v xs.length xs := by
  obtain ⟨F, ⟨_, hF⟩, _⟩ := (h.find (k := k) (X := Kp e zs)).fact
  obtain ⟨F', h1⟩ := sepL_mem (List.mem_map.2 ⟨_, hz, rfl⟩) hF
  exact Sl.of_own h1.2
theorem St.kpAdd {e : TypeId} {zs : List (Value × List Value)} {v : Value} {xs : List Value} {n : Nat} (hn : n = xs.length) (h : St w0 G (Ky v (Ow e 1 n xs) :: Ky 0 (Kp e zs) :: l) W) : St w0 G (Ky 0 (Kp e ((v, xs) :: zs)) :: l) W := by
  subst hn
  refine St.shutA (L := (((v, xs) :: zs).map fun z => Ky z.1 (Ow e 1 z.2.length z.2))) trivial ?_
  obtain ⟨F, ⟨F1, F2, h1, h2, hd, hF⟩, hG⟩ := h.own
  obtain ⟨F3, F4, h3, h4, hd', hF'⟩ := h2
  exact { h with own := ⟨F, ⟨F1, F2, h1, sepL_append.2 ⟨F3, F4, h3.2, h4, hd', hF'⟩, hd, hF⟩, hG⟩ }
end

section
variable {κ β : Type} [OKey κ] [DecidableEq κ]
/-- pairs put in, one behind the other -/
def fmap (ps : List (κ × β)) : List (κ × β) := ps.foldl (fun m p => putK p.1 p.2 m) []
theorem fmap_snoc (ps : List (κ × β)) (p : κ × β) : fmap (ps ++ [p]) = putK p.1 p.2 (fmap ps) := by simp [fmap, List.foldl_append]
theorem fmap_srt (ps : List (κ × β)) : Srt (fmap ps) := by
  obtain ⟨qs, rfl⟩ : ∃ qs, ps = List.reverse qs := ⟨ps.reverse, by simp⟩
  induction qs with
  | nil => exact List.Pairwise.nil
  | cons p qs ih => rw [List.reverse_cons, fmap_snoc]; exact srt_put ih
theorem putK_len3 (k : κ) (v : β) (m : List (κ × β)) : (putK k v m).length ≤ m.length + 1 := by
  have := posK_le k m
  unfold putK
  split <;> simp [List.length_take, List.length_drop] <;> omega
theorem fmap_len (ps : List (κ × β)) : (fmap ps).length ≤ ps.length := by
  obtain ⟨qs, rfl⟩ : ∃ qs, ps = List.reverse qs := ⟨ps.reverse, by simp⟩
  induction qs with
  | nil => exact Nat.le_refl _
  | cons p qs ih =>
    rw [List.reverse_cons, fmap_snoc]
    have := putK_len3 p.1 p.2 (fmap qs.reverse)
    rw [List.length_append, List.length_singleton]; omega
theorem fmap_get (s : κ) (ps : List (κ × β)) : (∀ x, getK s (fmap ps) = some x → ∃ X, ps[X]? = some (s, x) ∧ ∀ (j : Nat) (y : κ × β), ps[j]? = some y → y.1 = s → j ≤ X) ∧ (getK s (fmap ps) = none → ∀ (j : Nat) (y : κ × β), ps[j]? = some y → y.1 ≠ s) := by
  obtain ⟨qs, rfl⟩ : ∃ qs, ps = List.reverse qs := ⟨ps.reverse, by simp⟩
  induction qs with
  | nil => exact ⟨fun x h => by simp [fmap, getK] at h, fun _ j y h => by simp at h⟩
  | cons p qs ih =>
    rw [List.reverse_cons]
    generalize qs.reverse = ps at *
    rw [fmap_snoc, get_put (fmap_srt ps)]
    have at1 : ∀ (j : Nat) (y : κ × β), (ps ++ [p])[j]? = some y → ps[j]? = some y ∨ j = ps.length ∧ y = p := by
      intro j y h
      rcases Nat.lt_trichotomy j ps.length with hj | hj | hj
      · rw [List.getElem?_append_left hj] at h; exact .inl h
      · subst hj; rw [List.getElem?_append_right (Nat.le_refl _), Nat.sub_self] at h; cases h; exact .inr ⟨rfl, rfl⟩
      · rw [List.getElem?_eq_none (by rw [List.length_append, List.length_singleton]; omega)] at h; cases h
    split
    · rename_i he
      refine ⟨fun x h => ?_, fun h => by cases h⟩
      cases h
      refine ⟨ps.length, by rw [List.getElem?_append_right (Nat.le_refl _), Nat.sub_self, he]; rfl, fun j y hj _ => ?_⟩
      have := (List.getElem?_eq_some_iff.1 hj).1
      rw [List.length_append, List.length_singleton] at this; omega
    · rename_i hne
      refine ⟨fun x h => ?_, fun h j y hj hy => ?_⟩
      · obtain ⟨X, h1, h2⟩ := ih.1 x h
        have hX := (List.getElem?_eq_some_iff.1 h1).1
        refine ⟨X, by rw [List.getElem?_append_left hX]; exact h1, fun j y hj hy => ?_⟩
        rcases at1 j y hj with hj | ⟨_, rfl⟩
        · exact h2 j y hj hy
        · exact absurd hy.symm hne
      · rcases at1 j y hj with hj | ⟨_, rfl⟩
        · exact ih.2 h j y hj hy
        · exact hne hy.symm
end
end Go.Ez
