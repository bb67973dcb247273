/-
  EZ: a pool of slices that are kept and never turned, each told by the things of which its cells are made.
-/
import Derived.Test.YtlflpbflpcmckaaDoorEzIter
import Derived.Test.YtlflpbflpcmckaaDoorEzRc
namespace Go.Ez
open Go Go.Proofs Go.RowKit
set_option linter.unusedSimpArgs false
set_option linter.unusedVariables false

/-- pools' names -/
inductive PoolK where
  | a | b | c
section
variable {w0 W : World} {G : Nat → Prop} {l R : List As} {α : Type} {f : α → List Value} {e : TypeId} {sz : Nat} {zs : List (Value × List α)} {v : Value}
/-- slices kept -/
def Kq (f : α → List Value) (e : TypeId) (sz : Nat) (zs : List (Value × List α)) (_ : PoolK) : As := As.all True (zs.map fun z => Ky z.1 (Ow e sz z.2.length (rcells f z.2)))
theorem sepL_memQ {A : As} {w : World} : ∀ {L : List As} {F : Nat → Prop}, A ∈ L → sepL L F w → ∃ F', A.p F' w
  | B :: L, F, hm, ⟨F1, F2, h1, h2, _⟩ => by
    rcases List.mem_cons.1 hm with rfl | hm
    · exact ⟨F1, h1⟩
    · exact sepL_memQ hm h2
theorem St.kqNil (k : PoolK) (f : α → List Value) (e : TypeId) (sz : Nat) (h : St w0 G l W) : St w0 G (Ky k (Kq f e sz []) :: l) W := St.shutA (L := []) trivial h
theorem St.kqGet (k : PoolK) {xs : List α} [i : Has l k (Kq f e sz zs) R] (h : St w0 G l W) (hz : (v, xs) ∈ zs) : Sl W sz v xs.length (rcells f xs) := by
  obtain ⟨F, ⟨_, hF⟩, _⟩ := (h.find (k := k) (X := Kq f e sz zs)).fact
  obtain ⟨F', h1⟩ := sepL_memQ (List.mem_map.2 ⟨_, hz, rfl⟩) hF
  exact Sl.of_own h1.2
theorem St.kqAdd (k : PoolK) {xs : List α} {cs : List Value} {n : Nat} {R1 : List As} [i : Has l v (Ow e sz n cs) R1] [j : Has R1 k (Kq f e sz zs) R] (h : St w0 G l W) (hn : n = xs.length) (hc : cs = rcells f xs) : St w0 G (Ky k (Kq f e sz ((v, xs) :: zs)) :: R) W := by
  subst hn; subst hc
  obtain ⟨F0, hF0, hG0⟩ := h.own
  have h : St w0 G (Ky v (Ow e sz xs.length (rcells f xs)) :: Ky k (Kq f e sz zs) :: R) W := { h with own := ⟨F0, sepL_mono j.to (i.to F0 W hF0), hG0⟩ }
  refine St.shutA (L := (((v, xs) :: zs).map fun z => Ky z.1 (Ow e sz z.2.length (rcells f z.2)))) trivial ?_
  obtain ⟨F, ⟨F1, F2, h1, h2, hd, hF⟩, hG⟩ := h.own
  obtain ⟨F3, F4, h3, h4, hd', hF'⟩ := h2
  exact { h with own := ⟨F, ⟨F1, F2, h1, sepL_append.2 ⟨F3, F4, h3.2, h4, hd', hF'⟩, hd, hF⟩, hG⟩ }
/-- one moved behind a list, and before it -/
theorem St.behind {A : As} {L J : List As} (h : St w0 G (A :: (L ++ J)) W) : St w0 G (L ++ A :: J) W := by
  obtain ⟨F, ⟨F1, F2, h1, h2, hd, hF⟩, hG⟩ := h.own
  obtain ⟨F3, F4, h3, h4, hd', hF'⟩ := sepL_append.1 h2
  refine { h with own := ⟨F, sepL_append.2 ⟨F3, fun b => F1 b ∨ F4 b, h3, ⟨F1, F4, h1, h4, fun b a c => hd b a ((hF' b).2 (.inr c)), fun _ => Iff.rfl⟩, ?_, ?_⟩, hG⟩ }
  · rintro b a (c | c)
    · exact hd b c ((hF' b).2 (.inl a))
    · exact hd' b a c
  · intro b
    rw [hF b, hF' b]
    exact ⟨fun h => h.elim (fun h => .inr (.inl h)) fun h => h.elim .inl fun h => .inr (.inr h), fun h => h.elim (fun h => .inr (.inl h)) fun h => h.elim .inl fun h => .inr (.inr h)⟩
theorem St.before {A : As} {L J : List As} (h : St w0 G (L ++ A :: J) W) : St w0 G (A :: (L ++ J)) W := by
  obtain ⟨F, hs, hG⟩ := h.own
  obtain ⟨F3, F5, h3, ⟨F1, F4, h1, h4, hd, hF⟩, hd', hF'⟩ := sepL_append.1 hs
  refine { h with own := ⟨F, ⟨F1, fun b => F3 b ∨ F4 b, h1, sepL_append.2 ⟨F3, F4, h3, h4, fun b a c => hd' b a ((hF b).2 (.inr c)), fun _ => Iff.rfl⟩, ?_, ?_⟩, hG⟩ }
  · rintro b a (c | c)
    · exact hd' b c ((hF b).2 (.inl a))
    · exact hd b a c
  · intro b
    rw [hF' b, hF b]
    exact ⟨fun h => h.elim (fun h => .inr (.inl h)) fun h => h.elim .inl fun h => .inr (.inr h), fun h => h.elim (fun h => .inr (.inl h)) fun h => h.elim .inl fun h => .inr (.inr h)⟩
end
end Go.Ez
