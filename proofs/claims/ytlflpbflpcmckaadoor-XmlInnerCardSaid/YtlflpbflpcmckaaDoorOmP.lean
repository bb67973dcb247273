/-
  MAPS IN ORDER, plainly: lists of keys and values that rise. No program in sight.
-/
import Derived.Test.YtlflpbflpcmckaaDoorEzSlc
namespace Go.Ez
open Go
set_option linter.unusedSimpArgs false
set_option linter.unusedVariables false

abbrev strV (l : List UInt8) : Value := .string ⟨l.toArray⟩

/-- what may be a key -/
class OKey (κ : Type) where
  lt : κ → κ → Bool
  irr : ∀ a, lt a a = false
  tr : ∀ {a b c}, lt a b = true → lt b c = true → lt a c = true
  tot : ∀ {a b}, lt a b = false → lt b a = false → a = b
/-- what is one cell -/
class Enc (κ : Type) where
  enc : κ → Value
  one : ∀ a, (enc a).oneCell' = true
instance {κ : Type} [Enc κ] {a : κ} : Cel1 (Enc.enc a) := ⟨Enc.one a⟩

instance : OKey Int := ⟨fun a b => decide (a < b), fun a => by simp, fun h1 h2 => by simp at *; omega, fun h1 h2 => by simp at *; omega⟩
abbrev Txt := List UInt8
theorem bl_irr : ∀ a : Txt, Op.bytesLess a a = false
  | [] => rfl
  | a :: x => by simp [Op.bytesLess, bl_irr x]
theorem bl_tr : ∀ {a b c : Txt}, Op.bytesLess a b = true → Op.bytesLess b c = true → Op.bytesLess a c = true
  | [], _, [], _, h => by cases ‹Txt› <;> simp [Op.bytesLess] at h
  | [], _, _ :: _, _, _ => rfl
  | a :: x, [], _, h, _ => by simp [Op.bytesLess] at h
  | a :: x, b :: y, [], _, h => by simp [Op.bytesLess] at h
  | a :: x, b :: y, c :: z, h1, h2 => by
    simp only [Op.bytesLess, Bool.or_eq_true, Bool.and_eq_true, decide_eq_true_eq, beq_iff_eq] at *
    rcases h1 with h1 | ⟨rfl, h1⟩ <;> rcases h2 with h2 | ⟨rfl, h2⟩
    · exact .inl (UInt8.lt_trans h1 h2)
    · exact .inl h1
    · exact .inl h2
    · exact .inr ⟨rfl, bl_tr h1 h2⟩
theorem bl_tot : ∀ {a b : Txt}, Op.bytesLess a b = false → Op.bytesLess b a = false → a = b
  | [], [], _, _ => rfl
  | [], _ :: _, h, _ => by simp [Op.bytesLess] at h
  | _ :: _, [], _, h => by simp [Op.bytesLess] at h
  | a :: x, b :: y, h1, h2 => by
    simp only [Op.bytesLess, Bool.or_eq_false_iff, Bool.and_eq_false_iff, decide_eq_false_iff_not, beq_eq_false_iff_ne] at *
    have hab : a = b := UInt8.le_antisymm (UInt8.not_lt.1 h2.1) (UInt8.not_lt.1 h1.1)
    subst hab
    rw [bl_tot (h1.2.resolve_left (fun h => h rfl)) (h2.2.resolve_left (fun h => h rfl))]
instance : OKey Txt := ⟨Op.bytesLess, bl_irr, bl_tr, bl_tot⟩
instance : Enc Int := ⟨fun a => .int .i64 a, fun _ => rfl⟩
instance : Enc Txt := ⟨strV, fun _ => rfl⟩

theorem bl_gtr (a b : Txt) : (!(Op.bytesLess a b || a == b)) = Op.bytesLess b a := by
  cases h : Op.bytesLess a b
  · by_cases he : a = b
    · subst he; simp [bl_irr]
    · cases h2 : Op.bytesLess b a
      · exact absurd (bl_tot h h2) he
      · simp [he]
  · cases h2 : Op.bytesLess b a
    · rfl
    · have := bl_tr h h2; rw [bl_irr] at this; cases this
theorem x_gtrL {P : Program} {K : Value → Prop} {t : TypeId} {X Y : Operand} {a b : List UInt8} (h : K (.bool (Op.bytesLess b a))) : RunA P (bin .gtr t X Y (.string ⟨a.toArray⟩) (.string ⟨b.toArray⟩)) K :=
  x_gtrL0 (by rw [bl_gtr]; exact h)
/-- one key held against another -/
def cmpV {κ : Type} [OKey κ] (a b : κ) : Int := if OKey.lt a b then -1 else if OKey.lt b a then 1 else 0
theorem cmpV_neg {κ : Type} [OKey κ] {a b : κ} : cmpV a b < 0 ↔ OKey.lt a b = true := by
  unfold cmpV
  split
  · rename_i h; simp [h]
  · rename_i h; split <;> simp [h]
theorem cmpV_zero {κ : Type} [OKey κ] {a b : κ} : cmpV a b = 0 ↔ a = b := by
  unfold cmpV
  constructor
  · intro h
    split at h
    · cases h
    · rename_i h1
      split at h
      · cases h
      · rename_i h2
        exact OKey.tot (by simpa using h1) (by simpa using h2)
  · rintro rfl
    simp [OKey.irr]

section
variable {κ β : Type} [OKey κ]
open OKey
theorem OKey.asym {a b : κ} (h : lt a b = true) : lt b a = false := by
  cases h' : lt b a
  · rfl
  · have := tr h h'; rw [irr] at this; cases this

/-- they rise -/
def Srt (m : List (κ × β)) : Prop := m.Pairwise fun p q => lt p.1 q.1 = true
/-- how many keys stand before k -/
def posK (k : κ) : List (κ × β) → Nat
  | [] => 0
  | p :: m => if lt p.1 k then posK k m + 1 else 0
theorem posK_le (k : κ) : ∀ m : List (κ × β), posK k m ≤ m.length
  | [] => Nat.le_refl _
  | p :: m => by unfold posK; split <;> simp [posK_le k m]
theorem posK_lt {k : κ} : ∀ {m : List (κ × β)} {i : Nat} {p : κ × β}, m[i]? = some p → i < posK k m → lt p.1 k = true
  | p :: m, i, q, h, hi => by
    unfold posK at hi
    split at hi
    · rename_i hp
      cases i with
      | zero => cases h; exact hp
      | succ i => exact posK_lt (m := m) (by simpa using h) (by omega)
    · omega
theorem posK_ge {k : κ} : ∀ {m : List (κ × β)} {i : Nat} {p : κ × β}, Srt m → m[i]? = some p → posK k m ≤ i → lt p.1 k = false
  | p :: m, i, q, hs, h, hi => by
    unfold posK at hi
    cases i with
    | zero =>
      cases h
      split at hi
      · omega
      · rename_i hp; simpa using hp
    | succ i =>
      simp only [List.getElem?_cons_succ] at h
      have hs' := List.pairwise_cons.1 hs
      split at hi
      · exact posK_ge hs'.2 h (by omega)
      · rename_i hp
        have h1 := hs'.1 q (List.mem_of_getElem? h)
        cases hq : lt q.1 k
        · rfl
        · have := tr h1 hq; simp [this] at hp
theorem posK_iff {k : κ} {m : List (κ × β)} {i : Nat} {p : κ × β} (hs : Srt m) (h : m[i]? = some p) : lt p.1 k = true ↔ i < posK k m :=
  ⟨fun hl => (Nat.lt_or_ge i (posK k m)).elim id fun h' => by
    have := posK_ge hs h h'
    simp [this] at hl, posK_lt h⟩
theorem srt_nodup {m : List (κ × β)} (hs : Srt m) {i j : Nat} {p q : κ × β} (hi : m[i]? = some p) (hj : m[j]? = some q) (h : p.1 = q.1) : i = j := by
  have hil := (List.getElem?_eq_some_iff.1 hi)
  have hjl := (List.getElem?_eq_some_iff.1 hj)
  rcases Nat.lt_trichotomy i j with hlt | he | hlt
  · have := List.pairwise_iff_getElem.1 hs i j hil.1 hjl.1 hlt
    rw [hil.2, hjl.2, h, irr] at this; cases this
  · exact he
  · have := List.pairwise_iff_getElem.1 hs j i hjl.1 hil.1 hlt
    rw [hil.2, hjl.2, h, irr] at this; cases this
/-- k is there just where it stands at its place -/
theorem mem_pos {k : κ} {v : β} {m : List (κ × β)} (hs : Srt m) (h : (k, v) ∈ m) : m[posK k m]? = some (k, v) := by
  obtain ⟨i, hi, he⟩ := List.getElem_of_mem h
  have hg : m[i]? = some (k, v) := by rw [List.getElem?_eq_getElem hi, he]
  have h1 : ¬ i < posK k m := fun hlt => by have := posK_lt hg hlt; rw [irr] at this; cases this
  rcases Nat.lt_or_ge (posK k m) i with h2 | h2
  · have hp : posK k m < m.length := by omega
    have h3 := posK_ge hs (List.getElem?_eq_getElem hp) (Nat.le_refl _)
    have h4 := List.pairwise_iff_getElem.1 hs (posK k m) i hp hi h2
    rw [he] at h4
    rw [h3] at h4; cases h4
  · obtain rfl : i = posK k m := by omega
    exact hg
/-- is k there? -/
def hasK [DecidableEq κ] (k : κ) (m : List (κ × β)) : Bool := match m[posK k m]? with
  | some p => decide (p.1 = k)
  | none => false
def putK [DecidableEq κ] (k : κ) (v : β) (m : List (κ × β)) : List (κ × β) := if hasK k m then m.set (posK k m) (k, v) else m.take (posK k m) ++ (k, v) :: m.drop (posK k m)
def delK [DecidableEq κ] (k : κ) (m : List (κ × β)) : List (κ × β) := if hasK k m then m.take (posK k m) ++ m.drop (posK k m + 1) else m
/-- k's value -/
def getK [DecidableEq κ] (k : κ) : List (κ × β) → Option β
  | [] => none
  | p :: m => if p.1 = k then some p.2 else getK k m
end
section
variable {κ β : Type} [DecidableEq κ]
theorem getK_mem : ∀ {k : κ} {v : β} {m : List (κ × β)}, getK k m = some v → (k, v) ∈ m
  | k, v, p :: m, h => by
    unfold getK at h
    split at h
    · rename_i hp; cases h; rw [← hp]; exact List.mem_cons_self
    · exact List.mem_cons_of_mem _ (getK_mem h)
theorem getK_none : ∀ {k : κ} {m : List (κ × β)}, getK k m = none → ∀ v, (k, v) ∉ m
  | k, [], _, v, h => by cases h
  | k, p :: m, h, v, hm => by
    unfold getK at h
    split at h
    · cases h
    · rename_i hp
      rcases List.mem_cons.1 hm with rfl | hm
      · exact hp rfl
      · exact getK_none h v hm
theorem getK_append {k : κ} : ∀ {m n : List (κ × β)}, getK k (m ++ n) = (getK k m).or (getK k n)
  | [], n => by simp [getK]
  | p :: m, n => by
    simp only [List.cons_append, getK]
    split
    · rfl
    · exact getK_append
end
section
variable {κ β : Type} [OKey κ]
open OKey
variable [DecidableEq κ]
theorem hasK_spec {k : κ} {m : List (κ × β)} : hasK k m = true ↔ ∃ v, m[posK k m]? = some (k, v) := by
  unfold hasK
  split
  · rename_i p hp
    rw [hp]
    constructor
    · intro h
      have := of_decide_eq_true h
      exact ⟨p.2, by rw [← this]⟩
    · rintro ⟨v, hv⟩
      cases hv
      simp
  · rename_i hp
    rw [hp]; simp
theorem getK_pos {k : κ} {m : List (κ × β)} (hs : Srt m) : getK k m = if hasK k m then (m[posK k m]?).map Prod.snd else none := by
  cases hg : getK k m with
  | none =>
    split
    · rename_i hh
      obtain ⟨v, hv⟩ := hasK_spec.1 hh
      exact absurd (List.mem_of_getElem? hv) (getK_none hg v)
    · rfl
  | some v =>
    have := mem_pos hs (getK_mem hg)
    rw [if_pos (hasK_spec.2 ⟨v, this⟩), this]; rfl
theorem mem_iff_get {k : κ} {v : β} {m : List (κ × β)} (hs : Srt m) : (k, v) ∈ m ↔ getK k m = some v := by
  refine ⟨fun h => ?_, getK_mem⟩
  have hp := mem_pos hs h
  rw [getK_pos hs, if_pos (hasK_spec.2 ⟨v, hp⟩), hp]; rfl
theorem hasK_get {k : κ} {m : List (κ × β)} (hs : Srt m) : hasK k m = (getK k m).isSome := by
  rw [getK_pos hs]
  cases h : hasK k m
  · rfl
  · obtain ⟨v, hv⟩ := hasK_spec.1 h
    rw [if_pos rfl, hv]; rfl

/-! ### put and taken away -/
theorem srt_ins {k : κ} {v : β} {m : List (κ × β)} (hs : Srt m) (hn : hasK k m = false) : Srt (m.take (posK k m) ++ (k, v) :: m.drop (posK k m)) := by
  have hl : ∀ p ∈ m.take (posK k m), lt p.1 k = true := by
    intro p hp
    obtain ⟨i, hi, he⟩ := List.getElem_of_mem hp
    rw [List.length_take] at hi
    rw [List.getElem_take] at he
    exact posK_lt (k := k) (m := m) (i := i) (by rw [List.getElem?_eq_getElem (by omega), he]) (by omega)
  have hr : ∀ p ∈ m.drop (posK k m), lt k p.1 = true := by
    intro p hp
    obtain ⟨i, hi, he⟩ := List.getElem_of_mem hp
    rw [List.length_drop] at hi
    rw [List.getElem_drop] at he
    have hg : m[posK k m + i]? = some p := by rw [List.getElem?_eq_getElem (by omega), he]
    have h1 := posK_ge (k := k) hs hg (by omega)
    cases h2 : lt k p.1 with
    | true => rfl
    | false =>
      have := tot h1 h2
      have h3 := mem_pos hs (k := k) (v := p.2) (by rw [← this]; exact List.mem_of_getElem? hg)
      rw [hasK_spec.2 ⟨_, h3⟩] at hn; cases hn
  have hsplit : Srt (m.take (posK k m) ++ m.drop (posK k m)) := by rw [List.take_append_drop]; exact hs
  have h3 := List.pairwise_append.1 hsplit
  refine List.pairwise_append.2 ⟨h3.1, List.pairwise_cons.2 ⟨hr, h3.2.1⟩, fun p hp q hq => ?_⟩
  rcases List.mem_cons.1 hq with rfl | hq
  · exact hl p hp
  · exact tr (hl p hp) (hr q hq)
theorem srt_set {k : κ} {v : β} {m : List (κ × β)} (hs : Srt m) (hh : hasK k m = true) : Srt (m.set (posK k m) (k, v)) := by
  obtain ⟨u, hu⟩ := hasK_spec.1 hh
  unfold Srt
  have e : (m.set (posK k m) (k, v)).map Prod.fst = m.map Prod.fst := by
    rw [List.map_set]
    refine List.ext_getElem? fun i => ?_
    by_cases hi : posK k m = i
    · subst hi
      rw [List.getElem?_set_self (by rw [List.length_map]; exact (List.getElem?_eq_some_iff.1 hu).1), List.getElem?_map, hu]; rfl
    · rw [List.getElem?_set_ne hi]
  have h1 : (m.map Prod.fst).Pairwise (fun a b => lt a b = true) := List.pairwise_map.2 hs
  rw [← e] at h1
  exact List.pairwise_map.1 h1
theorem srt_put {k : κ} {v : β} {m : List (κ × β)} (hs : Srt m) : Srt (putK k v m) := by
  unfold putK
  split
  · rename_i h; exact srt_set hs h
  · rename_i h; exact srt_ins hs (by simpa using h)
theorem srt_del {k : κ} {m : List (κ × β)} (hs : Srt m) : Srt (delK k m) := by
  unfold delK
  split
  · have h0 : Srt (m.take (posK k m) ++ m.drop (posK k m)) := by rw [List.take_append_drop]; exact hs
    have h3 := List.pairwise_append.1 h0
    have hsub : ∀ x ∈ m.drop (posK k m + 1), x ∈ m.drop (posK k m) := fun x hx => by
      rw [← List.drop_drop] at hx
      exact List.mem_of_mem_drop hx
    have hp : (m.drop (posK k m + 1)).Pairwise fun p q => lt p.1 q.1 = true := by rw [← List.drop_drop]; exact h3.2.1.drop
    exact List.pairwise_append.2 ⟨h3.1, hp, fun p hp q hq => h3.2.2 p hp q (hsub q hq)⟩
  · exact hs
theorem get_put {k j : κ} {v : β} {m : List (κ × β)} (hs : Srt m) : getK j (putK k v m) = if j = k then some v else getK j m := by
  have hp := srt_put (k := k) (v := v) hs
  by_cases hjk : j = k
  · subst hjk
    rw [if_pos rfl, ← mem_iff_get hp]
    unfold putK
    split
    · rename_i h
      obtain ⟨u, hu⟩ := hasK_spec.1 h
      exact List.mem_of_getElem? (List.getElem?_set_self (List.getElem?_eq_some_iff.1 hu).1)
    · simp
  · rw [if_neg hjk]
    refine Option.ext fun u => ?_
    rw [← mem_iff_get hp, ← mem_iff_get hs]
    unfold putK
    split
    · rename_i h
      obtain ⟨x, hx⟩ := hasK_spec.1 h
      have hx' := List.getElem?_eq_some_iff.1 hx
      constructor
      · intro hm
        obtain ⟨i, hi, he⟩ := List.getElem_of_mem hm
        rw [List.length_set] at hi
        rw [List.getElem_set] at he
        split at he
        · cases he; exact absurd rfl hjk
        · rw [← he]; exact List.getElem_mem _
      · intro hm
        obtain ⟨i, hi, he⟩ := List.getElem_of_mem hm
        have hne : posK k m ≠ i := fun hpi => by subst hpi; rw [hx'.2] at he; cases he; exact hjk rfl
        have hm' : (m.set (posK k m) (k, v))[i]? = some (j, u) := by rw [List.getElem?_set_ne hne, List.getElem?_eq_getElem hi, he]
        exact List.mem_of_getElem? hm'
    · have e : ∀ x, x ∈ m ↔ x ∈ m.take (posK k m) ++ m.drop (posK k m) := fun x => by rw [List.take_append_drop]
      have e1 := e (j, u)
      rw [List.mem_append] at e1
      rw [e1]
      simp [hjk]
theorem get_del {k j : κ} {m : List (κ × β)} (hs : Srt m) : getK j (delK k m) = if j = k then none else getK j m := by
  have hp := srt_del (k := k) hs
  unfold delK at hp ⊢
  split
  · rename_i h
    rw [if_pos h] at hp
    obtain ⟨x, hx⟩ := hasK_spec.1 h
    have hx' := List.getElem?_eq_some_iff.1 hx
    have e : m = m.take (posK k m) ++ (k, x) :: m.drop (posK k m + 1) := by
      conv => lhs; rw [← List.take_append_drop (posK k m) m]
      rw [List.drop_eq_getElem_cons hx'.1, hx'.2]
    refine Option.ext fun u => ?_
    rw [← mem_iff_get hp]
    by_cases hjk : j = k
    · subst hjk
      rw [if_pos rfl]
      constructor
      · intro hm
        have hs' : Srt (m.take (posK j m) ++ (j, x) :: m.drop (posK j m + 1)) := by rw [← e]; exact hs
        have h3 := List.pairwise_append.1 hs'
        rcases List.mem_append.1 hm with hm | hm
        · have := h3.2.2 _ hm (j, x) List.mem_cons_self; rw [irr] at this; cases this
        · have := (List.pairwise_cons.1 h3.2.1).1 _ hm; rw [irr] at this; cases this
      · intro hm; cases hm
    · rw [if_neg hjk, ← mem_iff_get hs]
      conv => rhs; rw [e]
      simp [hjk]
  · rename_i h
    split
    · rename_i hjk
      subst hjk
      have := hasK_get (k := j) hs
      cases hg : getK j m with
      | none => rfl
      | some v => rw [hg] at this; simp [this] at h
    · rfl
/-- two maps that tell each key alike are one -/
theorem srt_ext {m n : List (κ × β)} (hm : Srt m) (hn : Srt n) (h : ∀ k, getK k m = getK k n) : m = n := by
  induction m generalizing n with
  | nil =>
    cases n with
    | nil => rfl
    | cons q n => have := h q.1; simp [getK] at this
  | cons p m ih =>
    cases n with
    | nil => have := h p.1; simp [getK] at this
    | cons q n =>
      have hm' := List.pairwise_cons.1 hm
      have hn' := List.pairwise_cons.1 hn
      have hpq : p.1 = q.1 := by
        refine tot ?_ ?_
        · cases hl : lt p.1 q.1 with
          | false => rfl
          | true =>
            have h1 := h p.1
            have : getK p.1 (q :: n) = none := by
              cases hg : getK p.1 (q :: n) with
              | none => rfl
              | some v =>
                rcases List.mem_cons.1 (getK_mem hg) with he | he
                · have : p.1 = q.1 := by rw [← he]
                  rw [this, irr] at hl; cases hl
                · have := tr hl (hn'.1 _ he); rw [irr] at this; cases this
            rw [this] at h1; simp [getK] at h1
        · cases hl : lt q.1 p.1 with
          | false => rfl
          | true =>
            have h1 := h q.1
            have : getK q.1 (p :: m) = none := by
              cases hg : getK q.1 (p :: m) with
              | none => rfl
              | some v =>
                rcases List.mem_cons.1 (getK_mem hg) with he | he
                · have : q.1 = p.1 := by rw [← he]
                  rw [this, irr] at hl; cases hl
                · have := tr hl (hm'.1 _ he); rw [irr] at this; cases this
            rw [this] at h1; simp [getK] at h1
      have h2 : p = q := by
        have := h p.1
        simp only [getK, if_true] at this
        rw [if_pos hpq.symm] at this
        exact Prod.ext hpq (Option.some.inj this)
      subst h2
      rw [ih hm'.2 hn'.2]
      intro k
      by_cases hk : p.1 = k
      · have e1 : ∀ {x : List (κ × β)}, (∀ y ∈ x, lt p.1 y.1 = true) → getK k x = none := fun {x} hx => by
          cases hg : getK k x with
          | none => rfl
          | some v =>
            have := hx _ (getK_mem hg)
            rw [hk, irr] at this; cases this
        rw [e1 hm'.1, e1 hn'.1]
      · have := h k
        simp only [getK, if_neg hk] at this
        exact this
end

/-! ### in cells -/
def pcells {κ β : Type} [Enc κ] [Enc β] (m : List (κ × β)) : List Value := m.flatMap fun p => [Enc.enc p.1, Enc.enc p.2]
section
variable {κ β : Type} [Enc κ] [Enc β]
theorem pcells_length : ∀ (m : List (κ × β)), (pcells m).length = m.length * 2
  | [] => rfl
  | p :: m => by simp only [pcells, List.flatMap_cons, List.length_append, List.length_cons, List.length_nil]; have := pcells_length m; unfold pcells at this; omega
theorem pcells_get : ∀ {m : List (κ × β)} {i : Nat} {p : κ × β}, m[i]? = some p → (pcells m)[i * 2]? = some (Enc.enc p.1) ∧ (pcells m)[i * 2 + 1]? = some (Enc.enc p.2)
  | q :: m, 0, p, h => by cases h; exact ⟨rfl, rfl⟩
  | q :: m, i + 1, p, h => by
    have := pcells_get (m := m) (i := i) (p := p) (by simpa using h)
    unfold pcells at this ⊢
    simp only [List.flatMap_cons, show (i + 1) * 2 = i * 2 + 1 + 1 by omega, List.cons_append, List.nil_append, List.getElem?_cons_succ]
    exact this
theorem pcells_append (m n : List (κ × β)) : pcells (m ++ n) = pcells m ++ pcells n := by simp [pcells]
theorem pcells_take : ∀ (m : List (κ × β)) (i : Nat), pcells (m.take i) = (pcells m).take (i * 2)
  | [], i => by simp [pcells]
  | p :: m, 0 => by simp [pcells]
  | p :: m, i + 1 => by
    have := pcells_take m i
    unfold pcells at this ⊢
    simp only [List.take_succ_cons, List.flatMap_cons, show (i + 1) * 2 = i * 2 + 1 + 1 by omega, List.cons_append, List.nil_append, this]
theorem pcells_drop : ∀ (m : List (κ × β)) (i : Nat), pcells (m.drop i) = (pcells m).drop (i * 2)
  | [], i => by simp [pcells]
  | p :: m, 0 => by simp [pcells]
  | p :: m, i + 1 => by
    have := pcells_drop m i
    unfold pcells at this ⊢
    simp only [List.drop_succ_cons, List.flatMap_cons, show (i + 1) * 2 = i * 2 + 1 + 1 by omega, List.cons_append, List.nil_append, this]
theorem pcells_one (m : List (κ × β)) : ∀ c ∈ pcells m, c.oneCell' = true := by
  intro c hc
  unfold pcells at hc
  rw [List.mem_flatMap] at hc
  obtain ⟨p, _, hc⟩ := hc
  simp only [List.mem_cons, List.not_mem_nil, or_false] at hc
  rcases hc with rfl | rfl <;> exact Enc.one _
theorem pcells_set {m : List (κ × β)} {i : Nat} {k : κ} {u v : β} (h : m[i]? = some (k, u)) : pcells (m.set i (k, v)) = (pcells m).set (i * 2 + 1) (Enc.enc v) := by
  induction m generalizing i with
  | nil => cases h
  | cons q m ih =>
    cases i with
    | zero => cases h; rfl
    | succ i =>
      have := ih (by simpa using h)
      unfold pcells at this ⊢
      simp only [List.set_cons_succ, List.flatMap_cons, show (i + 1) * 2 + 1 = (i * 2 + 1) + 1 + 1 by omega, List.cons_append, List.nil_append, this]
end
end Go.Ez
