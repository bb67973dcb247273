/-
  KEYS, plainly: names, keys, what they begin with. No program in sight.
-/
import Derived.Test.YtgflkjhljggeiaaDoorNuHp
import Derived.Lib.Split
import Derived.Lib.AtoiAll
namespace Go.Ez
open Go Go.Lib
set_option linter.unusedSimpArgs false
set_option linter.unusedVariables false
/-- may a byte stand in a name? -/
def nameC (c : UInt8) : Prop := (97 ≤ c.toNat ∧ c.toNat ≤ 122) ∨ (48 ≤ c.toNat ∧ c.toNat ≤ 57) ∨ c.toNat = 45
instance {c : UInt8} : Decidable (nameC c) := inferInstanceAs (Decidable (_ ∨ _))
def nameS (s : Txt) : Bool := decide ((∀ c ∈ s, nameC c) ∧ s ≠ [] ∧ s.length ≤ 20)
structure Pts where
  kind : Int
  user : Txt
  feed : Txt
  name : Txt
  guid : Txt
  num : Int
  deriving DecidableEq
def Pts.zero : Pts := ⟨0, [], [], [], [], 0⟩
/-- names with / between -/
def slash : List Txt → Txt
  | [] => []
  | [a] => a
  | a :: b :: r => a ++ 47 :: slash (b :: r)
def jnS (m : Txt) (l : List Txt) : Txt := if l.all nameS then m ++ 47 :: slash l else []
def numb (k : Txt) (n : Int) : Txt := if k = [] ∨ (digR n 6).2 = false then [] else k ++ 47 :: (digR n 6).1
def bgn (k : Txt) : Txt := if k = [] then [] else k ++ [47]
def guidS (f g : Txt) : Txt := if jnS [103] [f] = [] ∨ g = [] ∨ 500 < g.length then [] else jnS [103] [f] ++ 47 :: hexS g
def keyS (p : Pts) : Txt :=
  if p.kind = 1 then jnS [102] [p.feed] else if p.kind = 2 then numb (jnS [101] [p.feed]) p.num else if p.kind = 3 then guidS p.feed p.guid
  else if p.kind = 4 then jnS [115] [p.user, p.feed] else if p.kind = 5 then jnS [100] [p.user, p.name] else if p.kind = 6 then numb (jnS [114] [p.user, p.feed]) p.num
  else if p.kind = 7 then jnS [109] [p.user, p.feed] else []
theorem name_no {s : Txt} (h : nameS s = true) : 47 ∉ s ∧ s ≠ [] ∧ s.length ≤ 20 := by
  obtain ⟨h1, h2, h3⟩ := of_decide_eq_true h
  refine ⟨fun hm => ?_, h2, h3⟩
  have := h1 47 hm
  revert this; decide
theorem sep_inj : ∀ {a b x y : Txt}, 47 ∉ a → 47 ∉ b → a ++ 47 :: x = b ++ 47 :: y → a = b ∧ x = y
  | [], [], _, _, _, _, h => by simp at h; exact ⟨rfl, h⟩
  | [], c :: b, _, _, _, hb, h => by
    simp at h
    exact absurd h.1.symm (fun e => hb (by rw [e]; simp))
  | c :: a, [], _, _, ha, _, h => by
    simp at h
    exact absurd h.1 (fun e => ha (by rw [e]; simp))
  | c :: a, d :: b, x, y, ha, hb, h => by
    simp only [List.cons_append, List.cons.injEq] at h
    obtain ⟨rfl, h⟩ := h
    obtain ⟨e1, e2⟩ := sep_inj (fun hm => ha (by simp [hm])) (fun hm => hb (by simp [hm])) h
    exact ⟨by rw [e1], e2⟩
theorem jn1_eq {m f : Txt} (hm : m ≠ []) : (jnS m [f] ≠ [] ↔ nameS f = true) ∧ (nameS f = true → jnS m [f] = m ++ 47 :: f) := by
  unfold jnS
  simp only [List.all_cons, List.all_nil, Bool.and_true, slash]
  constructor
  · constructor
    · intro h; cases hf : nameS f
      · rw [hf] at h; simp at h
      · rfl
    · intro h; rw [if_pos h]; simp
  · intro h; rw [if_pos h]
/-- the entries of one feed do not begin as another's -/
theorem ent_apart {f g : Txt} {n : Int} (he : bgn (jnS [101] [f]) ≠ []) (hk : numb (jnS [101] [g]) n ≠ []) (hfg : f ≠ g) (hl : (bgn (jnS [101] [f])).length ≤ (numb (jnS [101] [g]) n).length) :
    (numb (jnS [101] [g]) n).take (bgn (jnS [101] [f])).length ≠ bgn (jnS [101] [f]) := by
  obtain ⟨f1, f2⟩ := jn1_eq (m := [101]) (f := f) (by simp)
  obtain ⟨g1, g2⟩ := jn1_eq (m := [101]) (f := g) (by simp)
  unfold bgn at he hl ⊢
  unfold numb at hk hl ⊢
  have hf : jnS [101] [f] ≠ [] := fun e => he (by rw [if_pos e])
  have hg : ¬ (jnS [101] [g] = [] ∨ (digR n 6).2 = false) := fun e => hk (by rw [if_pos e])
  rw [if_neg hf] at hl ⊢
  rw [if_neg hg] at hl ⊢
  have nf := f1.1 hf
  have ng := g1.1 (fun e => hg (.inl e))
  rw [f2 nf, g2 ng] at hl ⊢
  generalize (digR n 6).1 = d at *
  intro e
  have h2 : [101] ++ 47 :: g ++ 47 :: d = ([101] ++ 47 :: f ++ [47]) ++ ([101] ++ 47 :: g ++ 47 :: d).drop ([101] ++ 47 :: f ++ [47] : Txt).length := by
    conv => lhs; rw [← List.take_append_drop ([101] ++ 47 :: f ++ [47] : Txt).length ([101] ++ 47 :: g ++ 47 :: d), e]
  generalize ([101] ++ 47 :: g ++ 47 :: d).drop ([101] ++ 47 :: f ++ [47] : Txt).length = r at h2
  have h3 : g ++ 47 :: d = f ++ 47 :: r := by simpa using h2
  exact hfg (sep_inj (name_no ng).1 (name_no nf).1 h3).1.symm
theorem ent_same {f g : Txt} (he : bgn (jnS [101] [f]) ≠ []) (hk : bgn (jnS [101] [g]) ≠ []) : bgn (jnS [101] [f]) = bgn (jnS [101] [g]) ↔ f = g := by
  obtain ⟨f1, f2⟩ := jn1_eq (m := [101]) (f := f) (by simp)
  obtain ⟨g1, g2⟩ := jn1_eq (m := [101]) (f := g) (by simp)
  constructor
  · intro e
    unfold bgn at he hk e
    have hf : jnS [101] [f] ≠ [] := fun e => he (by rw [if_pos e])
    have hg : jnS [101] [g] ≠ [] := fun e => hk (by rw [if_pos e])
    rw [if_neg hf, if_neg hg, f2 (f1.1 hf), g2 (g1.1 hg)] at e
    simpa using e
  · rintro rfl; rfl
/-- the fields of a key, whatever they are -/
def splF (s : Txt) : List Txt := (splitB ⟨#[47]⟩ 0 (countB ⟨s.toArray⟩ ⟨#[47]⟩) ⟨s.toArray⟩).map (·.data.toList)
def atoiV (s : Txt) : Int := match atoiAll s with
  | .ok v => v
  | .range => atoiSat s
  | _ => 0
def splA (a : Nat → Txt) : Pts :=
  if a 0 = [102] then Pts.mk 1 [] (a 1) [] [] 0 else if a 0 = [101] then Pts.mk 2 [] (a 1) [] [] (atoiV (a 2))
  else if a 0 = [103] then Pts.mk 3 [] (a 1) [] ((unhR (a 2)).getD []) 0 else if a 0 = [115] then Pts.mk 4 (a 1) (a 2) [] [] 0
  else if a 0 = [100] then Pts.mk 5 (a 1) [] (a 2) [] 0 else if a 0 = [114] then Pts.mk 6 (a 1) (a 2) [] [] (atoiV (a 3))
  else if a 0 = [109] then Pts.mk 7 (a 1) (a 2) [] [] 0 else Pts.zero
def splS (s : Txt) : Pts := splA fun i => (splF s ++ [[], [], [], []]).getD i []
def parS (s : Txt) : Pts × Bool := if (splS s).kind = 0 ∨ keyS (splS s) ≠ s then (Pts.zero, false) else (splS s, true)
theorem par_ok {s : Txt} (h : (parS s).2 = true) : keyS (parS s).1 = s := by
  unfold parS at h ⊢
  split at h
  · cases h
  · rename_i hc
    rw [if_neg hc]
    exact Classical.not_not.1 fun hh => hc (.inr hh)
end Go.Ez
