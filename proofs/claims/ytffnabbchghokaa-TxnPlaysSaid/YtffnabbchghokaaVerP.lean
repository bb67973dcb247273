/-
  VERSIONS, plainly: chains of versions, what is to be seen at a time, what is pruned; rows of chains. No program in sight.
-/
import Derived.Test.YtffnabbchghokaaOmP
namespace Go.Ez
open Go
set_option linter.unusedSimpArgs false
set_option linter.unusedVariables false

/-! ### a map's values turned -/
section
variable {κ β γ : Type} [OKey κ]
def mapV (f : β → γ) (m : List (κ × β)) : List (κ × γ) := m.map fun p => (p.1, f p.2)
omit [OKey κ] in
theorem mapV_len (f : β → γ) (m : List (κ × β)) : (mapV f m).length = m.length := List.length_map ..
omit [OKey κ] in
theorem mapV_at (f : β → γ) {m : List (κ × β)} {i : Nat} {p : κ × β} (h : m[i]? = some p) : (mapV f m)[i]? = some (p.1, f p.2) := by
  unfold mapV
  rw [List.getElem?_map, h]; rfl
theorem mapV_srt (f : β → γ) {m : List (κ × β)} : Srt (mapV f m) ↔ Srt m := by
  unfold Srt mapV
  rw [List.pairwise_map]
theorem mapV_pos (f : β → γ) (k : κ) : ∀ m : List (κ × β), posK k (mapV f m) = posK k m
  | [] => rfl
  | p :: m => by
    have ih := mapV_pos f k m
    show posK k ((p.1, f p.2) :: mapV f m) = _
    unfold posK
    rw [ih]
variable [DecidableEq κ]
theorem mapV_has (f : β → γ) (k : κ) (m : List (κ × β)) : hasK k (mapV f m) = hasK k m := by
  unfold hasK
  rw [mapV_pos]
  unfold mapV
  rw [List.getElem?_map]
  cases m[posK k m]? <;> rfl
theorem mapV_put (f : β → γ) (k : κ) (v : β) (m : List (κ × β)) : mapV f (putK k v m) = putK k (f v) (mapV f m) := by
  unfold putK
  rw [mapV_has, mapV_pos]
  split
  · unfold mapV; rw [List.map_set]
  · unfold mapV; simp [List.map_take, List.map_drop]
theorem mapV_del (f : β → γ) (k : κ) (m : List (κ × β)) : mapV f (delK k m) = delK k (mapV f m) := by
  unfold delK
  rw [mapV_has, mapV_pos]
  split
  · unfold mapV; simp [List.map_take, List.map_drop]
  · rfl
omit [OKey κ] in
theorem mapV_get (f : β → γ) (k : κ) : ∀ m : List (κ × β), getK k (mapV f m) = (getK k m).map f
  | [] => rfl
  | p :: m => by
    have ih := mapV_get f k m
    show getK k ((p.1, f p.2) :: mapV f m) = _
    unfold getK
    split
    · rfl
    · exact ih
end

/-! ### chains -/
abbrev Ver (β : Type) := Int × β × Bool
section
variable {β : Type}
/-- how many of the first i, down to the last that is not above a time -/
def seenF (l : List (Ver β)) (t : Int) : Nat → Nat
  | 0 => 0
  | i + 1 => match l[i]? with
    | some v => if t < v.1 then seenF l t i else i + 1
    | none => seenF l t i
def seenN (l : List (Ver β)) (t : Int) : Nat := seenF l t l.length
theorem seenF_le (l : List (Ver β)) (t : Int) : ∀ i, seenF l t i ≤ i
  | 0 => Nat.le_refl _
  | i + 1 => by
    have := seenF_le l t i
    unfold seenF
    split
    · split
      · omega
      · exact Nat.le_refl _
    · omega
theorem seenN_le (l : List (Ver β)) (t : Int) : seenN l t ≤ l.length := seenF_le l t _
theorem seenF_at {l : List (Ver β)} {t : Int} : ∀ {i n : Nat} {v : Ver β}, seenF l t i = n + 1 → l[n]? = some v → v.1 ≤ t
  | i + 1, n, v, h, hv => by
    unfold seenF at h
    split at h
    · rename_i u hu
      split at h
      · exact seenF_at h hv
      · have : i = n := by omega
        subst this
        rw [hu] at hv; cases hv
        omega
    · exact seenF_at h hv
theorem seenF_above {l : List (Ver β)} {t : Int} : ∀ {i j : Nat} {v : Ver β}, seenF l t i ≤ j → j < i → l[j]? = some v → t < v.1
  | i + 1, j, v, h, hj, hv => by
    unfold seenF at h
    split at h
    · rename_i u hu
      split at h
      · rename_i hlt
        by_cases hij : j = i
        · subst hij
          rw [hu] at hv; cases hv
          exact hlt
        · exact seenF_above h (by omega) hv
      · omega
    · rename_i hn
      by_cases hij : j = i
      · subst hij; rw [hn] at hv; cases hv
      · exact seenF_above h (by omega) hv
/-- the value that is to be seen -/
def toldC (l : List (Ver β)) (t : Int) : Option β := match seenN l t with
  | 0 => none
  | n + 1 => match l[n]? with
    | some v => if v.2.2 then none else some v.2.1
    | none => none
/-- when the last was put -/
def lastC (l : List (Ver β)) : Int := match l.getLast? with
  | some v => v.1
  | none => 0
/-- without those that are not to be seen from a time on -/
def cutC (low : Int) : List (Ver β) → List (Ver β)
  | [] => []
  | v :: t => if v.2.2 = true ∧ v.1 ≤ low then t else v :: t
def prunedC (l : List (Ver β)) (low : Int) : List (Ver β) := cutC low (l.drop (seenN l low - 1))

theorem seenN_eq {l : List (Ver β)} {t : Int} {n : Nat} (hn : n ≤ l.length) (h1 : ∀ (j : Nat) (v : Ver β), n ≤ j → l[j]? = some v → t < v.1) (h2 : ∀ (j : Nat) (v : Ver β), n = j + 1 → l[j]? = some v → v.1 ≤ t) : seenN l t = n := by
  have hle := seenN_le l t
  rcases Nat.lt_trichotomy (seenN l t) n with h | h | h
  · obtain ⟨m, rfl⟩ : ∃ m, n = m + 1 := ⟨n - 1, by omega⟩
    obtain ⟨v, hv⟩ : ∃ v, l[m]? = some v := ⟨_, List.getElem?_eq_getElem (by omega)⟩
    have a := h2 m v rfl hv
    have b := seenF_above (l := l) (t := t) (i := l.length) (j := m) (by unfold seenN at h; omega) (by omega) hv
    omega
  · exact h
  · obtain ⟨m, hm⟩ : ∃ m, seenN l t = m + 1 := ⟨seenN l t - 1, by omega⟩
    obtain ⟨v, hv⟩ : ∃ v, l[m]? = some v := ⟨_, List.getElem?_eq_getElem (by omega)⟩
    have a := h1 m v (by omega) hv
    have b := seenF_at (i := l.length) (by unfold seenN at hm; exact hm) hv
    omega
theorem seenN_above {l : List (Ver β)} {t : Int} {j : Nat} {v : Ver β} (h : seenN l t ≤ j) (hv : l[j]? = some v) : t < v.1 :=
  seenF_above (i := l.length) h (List.getElem?_eq_some_iff.1 hv).1 hv
theorem seenN_at {l : List (Ver β)} {t : Int} {n : Nat} {v : Ver β} (h : seenN l t = n + 1) (hv : l[n]? = some v) : v.1 ≤ t := seenF_at (i := l.length) h hv
theorem seenN_drop (l : List (Ver β)) (t : Int) (d : Nat) : seenN (l.drop d) t = seenN l t - d := by
  have hle := seenN_le l t
  refine seenN_eq (by rw [List.length_drop]; omega) (fun j v hj hv => ?_) fun j v hj hv => ?_
  · rw [List.getElem?_drop] at hv
    exact seenN_above (by omega) hv
  · rw [List.getElem?_drop] at hv
    exact seenN_at (n := d + j) (by omega) hv
theorem seenN_mono (l : List (Ver β)) {t u : Int} (h : t ≤ u) : seenN l t ≤ seenN l u := by
  have hle := seenN_le l t
  rcases Nat.lt_or_ge (seenN l u) (seenN l t) with hlt | hge
  · obtain ⟨m, hm⟩ : ∃ m, seenN l t = m + 1 := ⟨seenN l t - 1, by omega⟩
    obtain ⟨v, hv⟩ : ∃ v, l[m]? = some v := ⟨_, List.getElem?_eq_getElem (by omega)⟩
    have a := seenN_at hm hv
    have b := seenN_above (l := l) (t := u) (j := m) (by omega) hv
    omega
  · exact hge
theorem seenN_snoc {l : List (Ver β)} {t : Int} {v : Ver β} (h : t < v.1) : seenN (l ++ [v]) t = seenN l t := by
  have hle := seenN_le l t
  refine seenN_eq (by rw [List.length_append]; omega) (fun j u hj hu => ?_) fun j u hj hu => ?_
  · rcases Nat.lt_or_ge j l.length with hl | hl
    · rw [List.getElem?_append_left hl] at hu
      exact seenN_above hj hu
    · rw [List.getElem?_append_right hl] at hu
      cases hjj : j - l.length with
      | zero => rw [hjj] at hu; cases hu; exact h
      | succ m => rw [hjj] at hu; cases hu
  · rw [List.getElem?_append_left (by omega)] at hu
    exact seenN_at hj hu
theorem toldC_snoc {l : List (Ver β)} {t : Int} {v : Ver β} (h : t < v.1) : toldC (l ++ [v]) t = toldC l t := by
  have hle := seenN_le l t
  unfold toldC
  rw [seenN_snoc h]
  cases hs : seenN l t with
  | zero => rfl
  | succ n => simp only; rw [List.getElem?_append_left (by omega)]
theorem toldC_drop {l : List (Ver β)} {t : Int} {d : Nat} (h : d < seenN l t ∨ d = 0) : toldC (l.drop d) t = toldC l t := by
  rcases h with h | rfl
  · unfold toldC
    rw [seenN_drop]
    obtain ⟨m, hm⟩ : ∃ m, seenN l t = d + m + 1 := ⟨seenN l t - d - 1, by omega⟩
    rw [hm, show d + m + 1 - d = m + 1 by omega]
    simp only
    rw [List.getElem?_drop]
  · rw [List.drop_zero]
theorem toldC_cut {l : List (Ver β)} {low t : Int} (h : low ≤ t) : toldC (cutC low l) t = toldC l t := by
  cases l with
  | nil => rfl
  | cons v l =>
    show toldC (if v.2.2 = true ∧ v.1 ≤ low then l else v :: l) t = _
    by_cases hc : v.2.2 = true ∧ v.1 ≤ low
    · rw [if_pos hc]
      have hs : 1 ≤ seenN (v :: l) t := by
        rcases Nat.lt_or_ge 0 (seenN (v :: l) t) with h1 | h1
        · exact h1
        · have := seenN_above (l := v :: l) (t := t) (j := 0) h1 rfl
          omega
      have hd : seenN l t = seenN (v :: l) t - 1 := seenN_drop (v :: l) t 1
      rcases Nat.lt_or_ge 1 (seenN (v :: l) t) with h1 | h1
      · exact toldC_drop (l := v :: l) (d := 1) (.inl h1)
      · have e1 : seenN (v :: l) t = 1 := by omega
        have e0 : seenN l t = 0 := by omega
        unfold toldC
        rw [e1, e0]
        simp [hc.1]
    · rw [if_neg hc]
/-- what is pruned is not to be seen from that time on -/
theorem toldC_pruned {l : List (Ver β)} {low t : Int} (h : low ≤ t) : toldC (prunedC l low) t = toldC l t := by
  unfold prunedC
  rw [toldC_cut h]
  have := seenN_mono l h
  exact toldC_drop (by omega)
end

/-! ### rows -/
section
variable {β : Type}
abbrev VRows (β : Type) := List (Txt × List (Ver β))
def chainR (rows : VRows β) (k : Txt) : List (Ver β) := (getK k rows).getD []
/-- a version more: what is answered, the rows then -/
def addR (rows : VRows β) (low : Int) (k : Txt) (v : Ver β) : Int × VRows β :=
  if v.1 < 1 ∨ v.1 > 1099511627776 then (1, rows) else if v.1 ≤ lastC (chainR rows k) ∨ v.1 < low then (12, rows) else (0, putK k (chainR rows k ++ [v]) rows)
def countR (rows : VRows β) : Nat := (rows.map fun r => r.2.length).sum
/-- one row pruned -/
def prune1 (low : Int) (r : Txt × List (Ver β)) : Option (Txt × List (Ver β)) := if (prunedC r.2 low).isEmpty then none else some (r.1, prunedC r.2 low)
def pruneR (rows : VRows β) (low low' : Int) : Nat × VRows β × Int :=
  if low' ≤ low ∨ low' > 1099511627776 then (0, rows, low) else (countR rows - countR (rows.filterMap (prune1 low')), rows.filterMap (prune1 low'), low')
def inR (lo hi : Txt) (k : Txt) : Bool := !OKey.lt k lo && (hi.isEmpty || OKey.lt k hi)
def scanR (rows : VRows β) (lo hi : Txt) (t : Int) : List (Txt × β) := rows.filterMap fun r => if inR lo hi r.1 then (toldC r.2 t).map fun x => (r.1, x) else none
end
end Go.Ez
