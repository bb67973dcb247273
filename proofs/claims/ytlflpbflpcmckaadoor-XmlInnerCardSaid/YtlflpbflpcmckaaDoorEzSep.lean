/-
  EZ: assertions on blocks that lie apart: what a world holds of one's own, and that all else is as it was.
-/
import Derived.Test.YtlflpbflpcmckaaDoorEzStr
namespace Go.Ez
open Go Go.Proofs Go.RowKit
set_option linter.unusedSimpArgs false
set_option linter.unusedVariables false

/-- an assertion: F are the blocks of which it speaks -/
structure As where
  p : (Nat → Prop) → World → Prop
  lt : ∀ {F : Nat → Prop} {w : World}, p F w → ∀ b, F b → b < w.heap.size
  loc : ∀ {F : Nat → Prop} {w w' : World}, p F w → (∀ b, F b → w'.heap[b]? = w.heap[b]?) → p F w'

/-- all of a list, apart from one another -/
def sepL : List As → (Nat → Prop) → World → Prop
  | [], F, _ => ∀ b, ¬ F b
  | A :: l, F, w => ∃ F1 F2, A.p F1 w ∧ sepL l F2 w ∧ (∀ b, F1 b → F2 b → False) ∧ ∀ b, F b ↔ F1 b ∨ F2 b

theorem sepL_lt : ∀ {l : List As} {F : Nat → Prop} {w : World}, sepL l F w → ∀ b, F b → b < w.heap.size
  | [], _, _, h, b, hb => absurd hb (h b)
  | A :: l, _, _, ⟨F1, F2, h1, h2, _, hF⟩, b, hb => ((hF b).1 hb).elim (A.lt h1 b) (sepL_lt h2 b)
theorem sepL_loc : ∀ {l : List As} {F : Nat → Prop} {w w' : World}, sepL l F w → (∀ b, F b → w'.heap[b]? = w.heap[b]?) → sepL l F w'
  | [], _, _, _, h, _ => h
  | A :: l, _, _, _, ⟨F1, F2, h1, h2, hd, hF⟩, hw => ⟨F1, F2, A.loc h1 fun b hb => hw b ((hF b).2 (.inl hb)), sepL_loc h2 fun b hb => hw b ((hF b).2 (.inr hb)), hd, hF⟩
theorem sepL_swap {A B : As} {l : List As} {F : Nat → Prop} {w : World} (h : sepL (A :: B :: l) F w) : sepL (B :: A :: l) F w := by
  obtain ⟨F1, F2, h1, ⟨F3, F4, h3, h4, hd2, hF2⟩, hd, hF⟩ := h
  refine ⟨F3, fun b => F1 b ∨ F4 b, h3, ⟨F1, F4, h1, h4, fun b a c => hd b a ((hF2 b).2 (.inr c)), fun _ => Iff.rfl⟩, ?_, ?_⟩
  · rintro b h5 (h6 | h6)
    · exact hd b h6 ((hF2 b).2 (.inl h5))
    · exact hd2 b h5 h6
  · intro b
    rw [hF b, hF2 b]
    exact ⟨fun h => h.elim (fun h => .inr (.inl h)) (fun h => h.elim .inl fun h => .inr (.inr h)), fun h => h.elim (fun h => .inr (.inl h)) (fun h => h.elim .inl fun h => .inr (.inr h))⟩
theorem sepL_mono {A : As} {l l' : List As} (hl : ∀ F w, sepL l F w → sepL l' F w) {F : Nat → Prop} {w : World} (h : sepL (A :: l) F w) : sepL (A :: l') F w := by
  obtain ⟨F1, F2, h1, h2, hd, hF⟩ := h
  exact ⟨F1, F2, h1, hl _ _ h2, hd, hF⟩
theorem sepL_append : ∀ {l l' : List As} {F : Nat → Prop} {w : World}, sepL (l ++ l') F w ↔ ∃ F1 F2, sepL l F1 w ∧ sepL l' F2 w ∧ (∀ b, F1 b → F2 b → False) ∧ ∀ b, F b ↔ F1 b ∨ F2 b
  | [], l', F, w => ⟨fun h => ⟨fun _ => False, F, fun _ h => h, h, fun _ h => h.elim, fun b => by simp⟩, fun ⟨F1, F2, h1, h2, _, hF⟩ => by
      have : F = F2 := funext fun b => propext ((hF b).trans ⟨fun h => h.elim (fun h => absurd h (h1 b)) id, .inr⟩)
      rw [this]; exact h2⟩
  | A :: l, l', F, w => by
    constructor
    · rintro ⟨F1, F2, h1, h2, hd, hF⟩
      obtain ⟨F3, F4, h3, h4, hd2, hF2⟩ := sepL_append.1 h2
      refine ⟨fun b => F1 b ∨ F3 b, F4, ⟨F1, F3, h1, h3, fun b a c => hd b a ((hF2 b).2 (.inl c)), fun _ => Iff.rfl⟩, h4, ?_, fun b => by rw [hF b, hF2 b, or_assoc]⟩
      rintro b (h | h) h'
      · exact hd b h ((hF2 b).2 (.inr h'))
      · exact hd2 b h h'
    · rintro ⟨F1, F2, ⟨F3, F4, h3, h4, hd2, hF2⟩, h2, hd, hF⟩
      refine ⟨F3, fun b => F4 b ∨ F2 b, h3, sepL_append.2 ⟨F4, F2, h4, h2, fun b a c => hd b ((hF2 b).2 (.inr a)) c, fun _ => Iff.rfl⟩, ?_, fun b => by rw [hF b, hF2 b, or_assoc]⟩
      rintro b h (h' | h')
      · exact hd2 b h h'
      · exact hd b ((hF2 b).2 (.inl h)) h'

/-! ### assertions -/
/-- an assertion found by its key -/
def Ky {κ : Type} (k : κ) (X : κ → As) : As := X k
/-- block b is o -/
def Ob (o : Obj) (b : Nat) : As :=
  ⟨fun F w => (∀ x, F x ↔ x = b) ∧ w.heap[b]? = some o, fun h x hx => by rw [(h.1 x).1 hx]; exact (Array.getElem?_eq_some_iff.1 h.2).1, fun h hw => ⟨h.1, (hw b ((h.1 b).2 rfl)).trans h.2⟩⟩
/-- block b is a variable of these cells -/
abbrev Rc (b : Nat) (t : TypeId) (cs : List Value) : As := Ky b (Ob (.cells cs.toArray t (0, 0)))

theorem ownsRow_loc {w w' : World} {base : Nat} {e : TypeId} {size : Nat} {v : Value} {n : Nat} {xs : List Value} (h : w.ownsRow base e size v n xs) (hw : ∀ b, v.ownBlock = some b → w'.heap[b]? = w.heap[b]?) : w'.ownsRow base e size v n xs := by
  obtain ⟨h1, h2⟩ := h
  refine ⟨h1, ?_⟩
  rcases h2 with h2 | ⟨g, cap, cur, rfl, hg, hh, r⟩
  · exact Or.inl h2
  · exact Or.inr ⟨g, cap, cur, rfl, hg, by rw [hw g rfl]; exact hh, r⟩
/-- v is a slice that can grow -/
def Ow (e : TypeId) (sz n : Nat) (xs : List Value) (v : Value) : As :=
  ⟨fun F w => (∀ x, F x ↔ v.ownBlock = some x) ∧ w.ownsRow 0 e sz v n xs, fun h x hx => (h.2.lt x ((h.1 x).1 hx)).2, fun h hw => ⟨h.1, ownsRow_loc h.2 fun b hb => hw b ((h.1 b).2 hb)⟩⟩
theorem Sl.loc {w w' : World} {sz : Nat} {v : Value} {n : Nat} {cs : List Value} (h : Sl w sz v n cs) (hw : ∀ b, v.ownBlock = some b → cs ≠ [] → w'.heap[b]? = w.heap[b]?) : Sl w' sz v n cs := by
  obtain ⟨ao, cap, hv, h1, h2, h3, h4⟩ := h
  refine ⟨ao, cap, hv, h1, h2, fun j u hj => ?_, h4⟩
  obtain ⟨b, o, e1, e2⟩ := h3 j u hj
  refine ⟨b, o, e1, ?_⟩
  have hb := hw b (by rw [hv, e1]; rfl) (fun h => by rw [h] at hj; cases hj)
  exact (World.cell?_of_block (a := ⟨b, o + j, none⟩) hb).trans e2
/-- v is a slice that is read -/
def Rd (sz n : Nat) (cs : List Value) (v : Value) : As :=
  ⟨fun F w => (∀ x, F x ↔ v.ownBlock = some x ∧ cs ≠ []) ∧ Sl w sz v n cs, fun {F w} h x hx => by
      obtain ⟨hb, hc⟩ := (h.1 x).1 hx
      obtain ⟨ao, cap, hv, h1, h2, h3, h4⟩ := h.2
      cases cs with
      | nil => exact absurd rfl hc
      | cons u cs =>
        obtain ⟨b, o, e1, e2⟩ := h3 0 u rfl
        rw [hv, e1] at hb
        cases hb
        exact World.block_lt_of_cell? _ _ e2,
    fun h hw => ⟨h.1, h.2.loc fun b hb hc => hw b ((h.1 b).2 ⟨hb, hc⟩)⟩⟩
def As.ex {α : Type} (f : α → As) : As := ⟨fun F w => ∃ x, (f x).p F w, fun ⟨x, h⟩ => (f x).lt h, fun ⟨x, h⟩ hw => ⟨x, (f x).loc h hw⟩⟩
/-- a fact, and a list of assertions -/
def As.all (φ : Prop) (l : List As) : As := ⟨fun F w => φ ∧ sepL l F w, fun h => sepL_lt h.2, fun h hw => ⟨h.1, sepL_loc h.2 hw⟩⟩

/-- what k's assertion in a list is, and what is left -/
class Has {κ : Type} (l : List As) (k : κ) (X : outParam (κ → As)) (R : outParam (List As)) : Prop where
  to : ∀ F w, sepL l F w → sepL (Ky k X :: R) F w
instance Has.head {κ : Type} {k : κ} {X : κ → As} {R : List As} : Has (Ky k X :: R) k X R := ⟨fun _ _ h => h⟩
instance (priority := 500) Has.tail {κ : Type} {k : κ} {X : κ → As} {l R : List As} {Y : As} [i : Has l k X R] : Has (Y :: l) k X (Y :: R) := ⟨fun _ _ h => sepL_swap (sepL_mono i.to h)⟩

/-- l' is of l, in whatever order; the rest is let go -/
class Arr (l l' : List As) : Prop where
  to : ∀ F w, sepL l F w → ∃ F', sepL l' F' w ∧ ∀ b, F' b → F b
instance (priority := 900) Arr.refl {l : List As} : Arr l l := ⟨fun F _ h => ⟨F, h, fun _ h => h⟩⟩
instance (priority := 800) Arr.nil {l : List As} : Arr l [] := ⟨fun _ _ _ => ⟨fun _ => False, fun _ h => h, fun _ h => h.elim⟩⟩
instance (priority := 700) Arr.cons {κ : Type} {k : κ} {X : κ → As} {l R l' : List As} [i : Has l k X R] [j : Arr R l'] : Arr l (Ky k X :: l') :=
  ⟨fun F w h => by
    obtain ⟨F1, F2, h1, h2, hd, hF⟩ := i.to F w h
    obtain ⟨F3, h3, h4⟩ := j.to F2 w h2
    exact ⟨fun b => F1 b ∨ F3 b, ⟨F1, F3, h1, h3, fun b a c => hd b a (h4 b c), fun _ => Iff.rfl⟩, fun b hb => (hF b).2 (hb.imp id (h4 b))⟩⟩
instance (priority := 100) Arr.drop {Y : As} {l l' : List As} [j : Arr l l'] : Arr (Y :: l) l' :=
  ⟨fun F w h => by
    obtain ⟨F1, F2, h1, h2, hd, hF⟩ := h
    obtain ⟨F3, h3, h4⟩ := j.to F2 w h2
    exact ⟨F3, h3, fun b hb => (hF b).2 (.inr (h4 b hb))⟩⟩

/-! ### states -/
/-- of what was there in w0 no block has turned but those of G; l is one's own -/
structure St (w0 : World) (G : Nat → Prop) (l : List As) (W : World) : Prop where
  os : W.os = w0.os
  tape : W.tape = w0.tape
  output : W.output = w0.output
  size : w0.heap.size ≤ W.heap.size
  block : ∀ k, k < w0.heap.size → ¬ G k → W.heap[k]? = w0.heap[k]?
  own : ∃ F, sepL l F W ∧ ∀ b, F b → G b ∨ w0.heap.size ≤ b

/-- of what was there no block has turned but those of F -/
structure Upd (F : Nat → Prop) (W W' : World) : Prop where
  os : W'.os = W.os
  tape : W'.tape = W.tape
  output : W'.output = W.output
  size : W.heap.size ≤ W'.heap.size
  block : ∀ k, k < W.heap.size → ¬ F k → W'.heap[k]? = W.heap[k]?

abbrev G0 : Nat → Prop := fun _ => False
section
variable {w0 W W' : World} {G : Nat → Prop} {l : List As}

theorem Upd.of_below {F : Nat → Prop} (h : Below W.heap.size W W') : Upd F W W' := ⟨h.os, h.tape, h.output, h.size, fun k hk _ => h.block k hk⟩
theorem Upd.of_mod {ks : List Nat} (h : Mod ks W W') : Upd (fun b => b ∈ ks) W W' := ⟨h.os, h.tape, h.output, h.size, h.block⟩
theorem St.start (w : World) : St w G0 [] w := ⟨rfl, rfl, rfl, Nat.le_refl _, fun _ _ _ => rfl, fun _ => False, fun _ h => h, fun _ h => h.elim⟩
theorem St.low (h : St w0 G0 l W) : Below w0.heap.size w0 W := ⟨h.os, h.tape, h.output, h.size, fun k hk => h.block k hk fun h => h⟩
theorem St.ext (h : St w0 G l W) (hb : Below W.heap.size W W') : St w0 G l W' := by
  obtain ⟨F, hF, hG⟩ := h.own
  exact ⟨hb.os.trans h.os, hb.tape.trans h.tape, hb.output.trans h.output, Nat.le_trans h.size hb.size, fun k hk hn => (hb.block k (Nat.lt_of_lt_of_le hk h.size)).trans (h.block k hk hn), F, sepL_loc hF fun b h => hb.block b (sepL_lt hF b h), hG⟩
theorem St.drew (h : St w0 G l W) : St w0 G l W.drew := h.ext (Below.refl _ _).drew
theorem St.find {κ : Type} {k : κ} {X : κ → As} {R : List As} [i : Has l k X R] (h : St w0 G l W) : St w0 G (Ky k X :: R) W := by
  obtain ⟨F, hF, hG⟩ := h.own
  exact { h with own := ⟨F, i.to F W hF, hG⟩ }
theorem St.to {l' : List As} [i : Arr l l'] (h : St w0 G l W) : St w0 G l' W := by
  obtain ⟨F, hF, hG⟩ := h.own
  obtain ⟨F', h1, h2⟩ := i.to F W hF
  exact { h with own := ⟨F', h1, fun b hb => hG b (h2 b hb)⟩ }
theorem St.fact {A : As} (h : St w0 G (A :: l) W) : ∃ F, A.p F W ∧ ∀ b, F b → G b ∨ w0.heap.size ≤ b := by
  obtain ⟨F, ⟨F1, F2, h1, h2, hd, hF⟩, hG⟩ := h.own
  exact ⟨F1, h1, fun b hb => hG b ((hF b).2 (.inl hb))⟩
theorem St.new {A : As} {F : Nat → Prop} (h : St w0 G l W) (hb : Below W.heap.size W W') (hA : A.p F W') (hF : ∀ b, F b → W.heap.size ≤ b) : St w0 G (A :: l) W' := by
  obtain ⟨F2, h2, hG⟩ := h.own
  have h' := h.ext hb
  exact { h' with own := ⟨fun b => F b ∨ F2 b, ⟨F, F2, hA, sepL_loc h2 fun b h => hb.block b (sepL_lt h2 b h), fun b a c => by have := hF b a; have := sepL_lt h2 b c; omega, fun _ => Iff.rfl⟩,
    fun b hb => hb.elim (fun hb => .inr (Nat.le_trans h.size (hF b hb))) (hG b)⟩ }
theorem St.upd {A A' : As} (h : St w0 G (A :: l) W) (k : ∀ F, A.p F W → Upd F W W' ∧ ∃ F', A'.p F' W' ∧ ∀ b, F' b → F b ∨ W.heap.size ≤ b) : St w0 G (A' :: l) W' := by
  obtain ⟨F, ⟨F1, F2, h1, h2, hd, hF⟩, hG⟩ := h.own
  obtain ⟨hu, F', h3, h4⟩ := k F1 h1
  have same : ∀ b, F2 b → W'.heap[b]? = W.heap[b]? := fun b hb => hu.block b (sepL_lt h2 b hb) fun hc => hd b hc hb
  refine ⟨hu.os.trans h.os, hu.tape.trans h.tape, hu.output.trans h.output, Nat.le_trans h.size hu.size, fun k hk hn => (hu.block k (Nat.lt_of_lt_of_le hk h.size) fun hc => ?_).trans (h.block k hk hn), fun b => F' b ∨ F2 b, ⟨F', F2, h3, sepL_loc h2 same, fun b a c => ?_, fun _ => Iff.rfl⟩, fun b hb => ?_⟩
  · rcases hG k ((hF k).2 (.inl hc)) with hx | hx
    · exact hn hx
    · omega
  · rcases h4 b a with h5 | h5
    · exact hd b h5 c
    · have := sepL_lt h2 b c; omega
  · rcases hb with hb | hb
    · rcases h4 b hb with h5 | h5
      · exact hG b ((hF b).2 (.inl h5))
      · exact .inr (Nat.le_trans h.size h5)
    · exact hG b ((hF b).2 (.inr hb))
theorem St.conv {A A' : As} (h : St w0 G (A :: l) W) (k : ∀ F, A.p F W → A'.p F W) : St w0 G (A' :: l) W := by
  obtain ⟨F, ⟨F1, F2, h1, h2, hd, hF⟩, hG⟩ := h.own
  exact { h with own := ⟨F, ⟨F1, F2, k F1 h1, h2, hd, hF⟩, hG⟩ }
/-- an assertion opened: what is, and its parts -/
theorem St.openA {φ : Prop} {L : List As} (h : St w0 G (As.all φ L :: l) W) : φ ∧ St w0 G (L ++ l) W := by
  obtain ⟨F, ⟨F1, F2, h1, h2, hd, hF⟩, hG⟩ := h.own
  exact ⟨h1.1, { h with own := ⟨F, sepL_append.2 ⟨F1, F2, h1.2, h2, hd, hF⟩, hG⟩ }⟩
theorem St.shutA {φ : Prop} {L : List As} (hφ : φ) (h : St w0 G (L ++ l) W) : St w0 G (As.all φ L :: l) W := by
  obtain ⟨F, hs, hG⟩ := h.own
  obtain ⟨F1, F2, h1, h2, hd, hF⟩ := sepL_append.1 hs
  exact { h with own := ⟨F, ⟨F1, F2, ⟨hφ, h1⟩, h2, hd, hF⟩, hG⟩ }
theorem St.openE {α : Type} {f : α → As} (h : St w0 G (As.ex f :: l) W) : ∃ x, St w0 G (f x :: l) W := by
  obtain ⟨F, ⟨F1, F2, ⟨x, h1⟩, h2, hd, hF⟩, hG⟩ := h.own
  exact ⟨x, { h with own := ⟨F, ⟨F1, F2, h1, h2, hd, hF⟩, hG⟩ }⟩
theorem St.shutE {α : Type} {f : α → As} (x : α) (h : St w0 G (f x :: l) W) : St w0 G (As.ex f :: l) W := h.conv fun _ hp => ⟨x, hp⟩
/-- under a key, and without it -/
theorem St.at {κ : Type} {k : κ} {X : κ → As} : St w0 G (Ky k X :: l) W ↔ St w0 G (X k :: l) W := Iff.rfl

/-! ### blocks -/
theorem St.ob {b : Nat} {o : Obj} {R : List As} [Has l b (Ob o) R] (h : St w0 G l W) : W.heap[b]? = some o := by
  obtain ⟨F, hF, _⟩ := (h.find (k := b) (X := Ob o)).fact
  exact hF.2
theorem St.rc {b : Nat} {t : TypeId} {cs : List Value} {R : List As} [Has l b (Ob (.cells cs.toArray t (0, 0))) R] (h : St w0 G l W) : Rec W b t cs := h.ob
theorem St.box {b : Nat} {t : TypeId} {v : Value} {R : List As} [Has l b (Ob (.cells #[v] t (0, 0))) R] (h : St w0 G l W) : Boxed W b t v := h.ob
theorem St.setB {b : Nat} {o o' : Obj} {R : List As} [Has l b (Ob o) R] (h : St w0 G l W) (hm : Mod [b] W W') (ho : W'.heap[b]? = some o') : St w0 G (Ky b (Ob o') :: R) W' :=
  (h.find (k := b) (X := Ob o)).upd fun F hF => ⟨⟨hm.os, hm.tape, hm.output, hm.size, fun k hk hn => hm.block k hk fun hc => hn ((hF.1 k).2 (by simpa using hc))⟩, F, ⟨hF.1, ho⟩, fun _ hb => .inl hb⟩
theorem St.putO {b : Nat} {o : Obj} {R : List As} [Has l b (Ob o) R] (h : St w0 G l W) (o' : Obj) : St w0 G (Ky b (Ob o') :: R) (W.putObj b o') :=
  h.setB (o := o) (Mod.putObj W b o') (World.putObj_heap_same (Array.getElem?_eq_some_iff.1 h.ob).1)
theorem St.newB {b : Nat} {o : Obj} (h : St w0 G l W) (hb : Below W.heap.size W W') (h1 : W.heap.size ≤ b) (ho : W'.heap[b]? = some o) : St w0 G (Ky b (Ob o) :: l) W' :=
  h.new (F := fun x => x = b) hb ⟨fun _ => Iff.rfl, ho⟩ fun x hx => by rw [hx]; exact h1
theorem St.newOw {B : Nat} {e : TypeId} {sz n : Nat} {xs : List Value} {v : Value} (h : St w0 G l W) (hb : Below W.heap.size W W') (ho : W'.ownsRow B e sz v n xs) (hB : W.heap.size ≤ B) : St w0 G (Ky v (Ow e sz n xs) :: l) W' :=
  h.new (F := fun x => v.ownBlock = some x) hb ⟨fun _ => Iff.rfl, own_mono ho (Nat.zero_le _)⟩ fun x hx => Nat.le_trans hB (own_base ho x hx)
/-- a slice of nothing -/
theorem St.nilOw {e : TypeId} {sz : Nat} (h : St w0 G l W) : St w0 G (Ky (.slice none 0 0) (Ow e sz 0 []) :: l) W := h.newOw (B := W.heap.size) (Below.refl _ _) own_nil (Nat.le_refl _)
theorem own_up {base B : Nat} {e : TypeId} {sz n : Nat} {xs : List Value} {v : Value} (h : W.ownsRow base e sz v n xs) (hB : ∀ k, v.ownBlock = some k → B ≤ k) : W.ownsRow B e sz v n xs := by
  refine ⟨h.1, h.2.imp id ?_⟩
  rintro ⟨g, cap, cur, rfl, hg, r⟩
  exact ⟨g, cap, cur, rfl, hB g rfl, r⟩
theorem St.ow {e : TypeId} {sz n : Nat} {xs : List Value} {v : Value} {R : List As} [Has l v (Ow e sz n xs) R] (h : St w0 G l W) : W.ownsRow 0 e sz v n xs := by
  obtain ⟨F, hF, _⟩ := (h.find (k := v) (X := Ow e sz n xs)).fact
  exact hF.2
theorem St.owG {e : TypeId} {sz n : Nat} {xs : List Value} {v : Value} {R : List As} [Has l v (Ow e sz n xs) R] (h : St w0 G0 l W) : W.ownsRow w0.heap.size e sz v n xs := by
  obtain ⟨F, hF, hG⟩ := (h.find (k := v) (X := Ow e sz n xs)).fact
  exact own_up hF.2 fun k hk => (hG k ((hF.1 k).2 hk)).elim (fun h => h.elim) id
theorem St.osl {e : TypeId} {sz n : Nat} {xs : List Value} {v : Value} {R : List As} [Has l v (Ow e sz n xs) R] (h : St w0 G l W) : Sl W sz v n xs := Sl.of_own h.ow
theorem St.rsl {sz n : Nat} {xs : List Value} {v : Value} {R : List As} [Has l v (Rd sz n xs) R] (h : St w0 G l W) : Sl W sz v n xs := by
  obtain ⟨F, hF, _⟩ := (h.find (k := v) (X := Rd sz n xs)).fact
  exact hF.2
/-- what is owned grows, or is turned -/
theorem St.setOw {e : TypeId} {sz n n' : Nat} {xs xs' : List Value} {v v' : Value} {R : List As} [Has l v (Ow e sz n xs) R] (h : St w0 G l W) (hg : W.grownBy W' v.ownBlock) (ho : W'.ownsRow 0 e sz v' n' xs') (hk : ∀ k, v'.ownBlock = some k → v.ownBlock = some k ∨ W.heap.size ≤ k) : St w0 G (Ky v' (Ow e sz n' xs') :: R) W' :=
  (h.find (k := v) (X := Ow e sz n xs)).upd fun F hF => ⟨⟨hg.os, hg.tape, hg.output, hg.size, fun k hk' hn => hg.block k hk' fun hc => hn ((hF.1 k).2 hc.symm)⟩, fun x => v'.ownBlock = some x, ⟨fun _ => Iff.rfl, ho⟩, fun b hb => (hk b hb).imp (hF.1 b).2 id⟩
/-- what is owned, only read from now on -/
theorem St.rd {e : TypeId} {sz n : Nat} {xs : List Value} {v : Value} {R : List As} [Has l v (Ow e sz n xs) R] (h : St w0 G l W) : St w0 G (Ky v (Rd sz n xs) :: R) W := by
  obtain ⟨F, ⟨F1, F2, h1, h2, hd, hF⟩, hG⟩ := (h.find (k := v) (X := Ow e sz n xs)).own
  have h1' : (Ow e sz n xs v).p F1 W := h1
  refine { h with own := ⟨fun b => (F1 b ∧ xs ≠ []) ∨ F2 b, ⟨fun b => F1 b ∧ xs ≠ [], F2, ⟨fun x => and_congr_left fun _ => h1'.1 x, Sl.of_own h1'.2⟩, h2, fun b a c => hd b a.1 c, fun _ => Iff.rfl⟩, fun b hb => hG b ((hF b).2 (hb.imp And.left id))⟩ }
/-- facts of what was there at the begin -/
theorem St.sl0 {sz : Nat} {v : Value} {n : Nat} {cs : List Value} (h : St w0 G0 l W) (hs : Sl w0 sz v n cs) : Sl W sz v n cs := hs.below h.low
end

/-! ### lists of cells -/
class Nth (l : List Value) (i : Nat) (x : outParam Value) : Prop where
  eq : l[i]? = some x
instance Nth.zero {x : Value} {l : List Value} : Nth (x :: l) 0 x := ⟨rfl⟩
instance Nth.succ {x y : Value} {l : List Value} {i : Nat} [n : Nth l i x] : Nth (y :: l) (i + 1) x := ⟨by simpa using n.eq⟩
class SetN (l : List Value) (i : Nat) (x : Value) (l' : outParam (List Value)) : Prop where
  eq : l.set i x = l'
instance SetN.zero {x y : Value} {l : List Value} : SetN (y :: l) 0 x (x :: l) := ⟨rfl⟩
instance SetN.succ {x y : Value} {l l' : List Value} {i : Nat} [n : SetN l i x l'] : SetN (y :: l) (i + 1) x (y :: l') := ⟨by simp [n.eq]⟩
/-- a value of one cell -/
class Cel1 (v : Value) : Prop where
  one : v.oneCell' = true
instance {k : IntKind} {n : Int} : Cel1 (.int k n) := ⟨rfl⟩
instance {b : Bool} : Cel1 (.bool b) := ⟨rfl⟩
instance {s : ByteArray} : Cel1 (.string s) := ⟨rfl⟩
instance {a : Option Addr} {n c : Nat} : Cel1 (.slice a n c) := ⟨rfl⟩
instance {p : Option Addr} : Cel1 (.pointer p) := ⟨rfl⟩
instance {f : Fn} {a b : Array Value} : Cel1 (.func f a b) := ⟨rfl⟩
instance {b : UInt8} : Cel1 (byteV b) := ⟨rfl⟩
instance : Cel1 .nilFunc := ⟨rfl⟩
instance : Cel1 .nilIface := ⟨rfl⟩
theorem Cel1.of_own {W : World} {base : Nat} {e : TypeId} {sz n : Nat} {xs : List Value} {v : Value} (h : W.ownsRow base e sz v n xs) : Cel1 v := by
  rcases h.2 with ⟨rfl, _⟩ | ⟨g, cap, cur, rfl, _⟩ <;> exact ⟨rfl⟩
theorem Cel1.of_sl {W : World} {sz n : Nat} {xs : List Value} {v : Value} (h : Sl W sz v n xs) : Cel1 v := ⟨one_slice h⟩
class OneL (l : List Value) : Prop where
  one : ∀ v ∈ l, v.oneCell' = true
instance : OneL [] := ⟨by simp⟩
instance {x : Value} {l : List Value} [o : Cel1 x] [n : OneL l] : OneL (x :: l) := ⟨by
  intro v hv
  rcases List.mem_cons.1 hv with rfl | hv
  · exact o.one
  · exact n.one v hv⟩

class Len (l : List Value) (n : outParam Nat) : Prop where
  eq : l.length = n
instance : Len [] 0 := ⟨rfl⟩
instance {x : Value} {l : List Value} {n : Nat} [i : Len l n] : Len (x :: l) (n + 1) := ⟨by simp [i.eq]⟩

class IsN (n m : Nat) : Prop where
  eq : n = m
instance {n : Nat} : IsN n n := ⟨rfl⟩
/-- numbered parts of what is written out -/
def numbered : Nat → List Value → List (Nat × Value)
  | _, [] => []
  | k, v :: vs => (k, v) :: numbered (k + 1) vs
class Prt (ps : List (Nat × Value)) (k : Nat) (vs : outParam (List Value)) : Prop where
  eq : ps = numbered k vs
instance {k : Nat} : Prt [] k [] := ⟨rfl⟩
instance {k : Nat} {v : Value} {ps : List (Nat × Value)} {vs : List Value} [i : Prt ps (k + 1) vs] : Prt ((k, v) :: ps) k (v :: vs) := ⟨by simp [numbered, i.eq]⟩
class Apd (a b : List Value) (c : outParam (List Value)) : Prop where
  eq : a ++ b = c
instance {b : List Value} : Apd [] b b := ⟨rfl⟩
instance {x : Value} {a b c : List Value} [i : Apd a b c] : Apd (x :: a) b (x :: c) := ⟨by simp [← i.eq]⟩
/-- the cells of some values, so many each -/
class CellsL (sz : Nat) (vs : List Value) (cs : outParam (List Value)) : Prop where
  size : ∀ v ∈ vs, v.cells.size = sz
  eq : vs.flatMap (fun v => v.cells.toList) = cs
instance {sz : Nat} : CellsL sz [] [] := ⟨by simp, rfl⟩
theorem Cel1.cells {v : Value} (o : Cel1 v) : v.cells = #[v] := by
  have h := o.one
  cases v <;> first | rfl | (simp [Value.oneCell'] at h)
instance (priority := 500) {v : Value} {vs cs : List Value} [o : Cel1 v] [i : CellsL 1 vs cs] : CellsL 1 (v :: vs) (v :: cs) := ⟨by
  intro u hu
  rcases List.mem_cons.1 hu with rfl | hu
  · rw [o.cells]; rfl
  · exact i.size u hu, by rw [List.flatMap_cons, i.eq, o.cells]; rfl⟩
instance {sz n : Nat} {a vs cs c : List Value} [l : Len a n] [h : IsN n sz] [i : CellsL sz vs cs] [j : Apd a cs c] : CellsL sz (.agg a.toArray :: vs) c := ⟨by
  intro u hu
  rcases List.mem_cons.1 hu with rfl | hu
  · show a.toArray.size = sz
    rw [List.size_toArray, l.eq, h.eq]
  · exact i.size u hu, by rw [List.flatMap_cons, i.eq, ← j.eq]; rfl⟩
theorem fill_all {sz : Nat} : ∀ (vs : List Value) (k : Nat) (init : Array Value), init.size = (k + vs.length) * sz → (∀ v ∈ vs, v.cells.size = sz) →
    Instr.fill (fun i => some (i * sz, sz)) init (numbered k vs) = some (init.toList.take (k * sz) ++ vs.flatMap fun v => v.cells.toList).toArray
  | [], k, init, h, _ => by
    simp only [numbered, Instr.fill, List.flatMap_nil, List.append_nil]
    rw [List.take_of_length_le (by rw [Array.length_toList, h]; simp)]
  | v :: vs, k, init, h, hv => by
    have hsz := hv v (by simp)
    have hk : k * sz + sz ≤ init.size := by
      rw [h, List.length_cons, ← Nat.succ_mul]
      exact Nat.mul_le_mul_right _ (by omega)
    have key : ∀ (cs : List Value) (j : Nat) (a : Array Value), k * sz + j + cs.length ≤ a.size →
        ((cs.zipIdx j).foldl (fun (c : Array Value) (p : Value × Nat) => c.setIfInBounds (k * sz + p.2) p.1) a).toList = a.toList.take (k * sz + j) ++ cs ++ a.toList.drop (k * sz + j + cs.length) := by
      intro cs
      induction cs with
      | nil => intro j a _; simp
      | cons c cs ih =>
        intro j a ha
        simp only [List.length_cons] at ha
        simp only [List.zipIdx_cons, List.foldl_cons]
        rw [ih (j + 1) _ (by rw [Array.size_setIfInBounds]; omega), Array.toList_setIfInBounds]
        have hlt : k * sz + j < a.toList.length := by rw [Array.length_toList]; omega
        have e1 : (a.toList.set (k * sz + j) c).take (k * sz + (j + 1)) = a.toList.take (k * sz + j) ++ [c] := by
          rw [show k * sz + (j + 1) = (k * sz + j) + 1 by omega, List.take_add_one, List.getElem?_set_self hlt, List.take_set_of_le (Nat.le_refl _)]
          rfl
        have e2 : (a.toList.set (k * sz + j) c).drop (k * sz + (j + 1) + cs.length) = a.toList.drop (k * sz + j + (cs.length + 1)) := by
          rw [List.drop_set_of_lt (by omega)]
          congr 1; omega
        rw [e1, e2]
        simp
    simp only [numbered, Instr.fill]
    rw [if_neg (by simp [hsz]; omega)]
    have hfold : (v.cells.zipIdx.foldl (fun cs (p : Value × Nat) => cs.setIfInBounds (k * sz + p.2) p.1) init).toList = init.toList.take (k * sz) ++ v.cells.toList ++ init.toList.drop (k * sz + sz) := by
      have := key v.cells.toList 0 init (by rw [Array.length_toList, hsz]; omega)
      simp only [Nat.add_zero, Array.length_toList, hsz] at this
      rw [← this]
      rw [← Array.foldl_toList, Array.toList_zipIdx]
    generalize hF : v.cells.zipIdx.foldl (fun cs (p : Value × Nat) => cs.setIfInBounds (k * sz + p.2) p.1) init = F at hfold
    have hFs : F.size = init.size := by
      have := congrArg List.length hfold
      rw [Array.length_toList] at this
      rw [this]
      simp only [List.length_append, List.length_take, List.length_drop, Array.length_toList, hsz]
      omega
    have ih := fill_all vs (k + 1) F (by rw [hFs, h]; simp only [List.length_cons]; congr 1; omega) (fun u hu => hv u (by simp [hu]))
    refine Eq.trans ?_ (ih.trans ?_)
    · rw [← hF]
    · congr 2
      rw [hfold, show (k + 1) * sz = k * sz + sz by rw [Nat.succ_mul]]
      rw [List.flatMap_cons, ← List.append_assoc]
      congr 1
      have hl : (init.toList.take (k * sz) ++ v.cells.toList).length = k * sz + sz := by
        rw [List.length_append, List.length_take, Array.length_toList, Array.length_toList, hsz]; omega
      rw [← hl, List.take_left]

/-! ### types -/
/-- a type of one cell -/
class Ty1 (P : Program) (t : TypeId) (z : outParam Value) : Prop where
  agg : ∀ w, (isAgg t).run P w = .ok false w
  size : ∀ w, (sizeOf t).run P w = .ok 1 w
  zero : ∀ w, (zeroValue t).run P w = .ok z w
  one : z.oneCell' = true
/-- a struct -/
class TyS (P : Program) (t : TypeId) (n : outParam Nat) (zs : outParam (List Value)) : Prop where
  agg : ∀ w, (isAgg t).run P w = .ok true w
  size : ∀ w, (sizeOf t).run P w = .ok n w
  zero : ∀ w, (zeroValue t).run P w = .ok (.agg zs.toArray) w
/-- what a type is -/
class Und (P : Program) (t : TypeId) (d : outParam TypeDesc) : Prop where
  eq : P.underlying t = some d
/-- a slice's type -/
class SlT (P : Program) (t : TypeId) (e : outParam TypeId) (sz bytes : outParam Nat) (z : outParam Value) : Prop where
  el : ElT P t e sz bytes z
/-- a struct that is written out -/
class Bld (P : Program) (t : TypeId) (places : outParam (Array (Nat × Nat))) (z : outParam (Array Value)) : Prop where
  zero : ∀ w, (zeroValue t).run P w = .ok (.agg z) w
  st : ∃ fs, P.underlying t = some (.struct fs) ∧ ∀ w, (fs.mapM fun f => do pure (f.offset, ← sizeOf f.type) : Sem (Array (Nat × Nat))).run P w = .ok places w
/-- a field's place -/
class Fld (P : Program) (s : TypeId) (i : Nat) (off : outParam Nat) : Prop where
  at_ : ∀ {b o : Nat} {K : Value → Prop}, K (.pointer (some ⟨b, o + off, none⟩)) → RunA P (Instr.fieldAt s (.pointer (some ⟨b, o, none⟩)) i) K

section
variable {P : Program} {w0 W : World} {G : Nat → Prop} {l : List As} {K : Value → Prop} {KW : Value → World → Prop} {KU : World → Prop}

theorem ifnt {p q : Prop} (h : q) : IfB (.bool (!true)) p q := iff' h
theorem ifnf {p q : Prop} (h : p) : IfB (.bool (!false)) p q := ift h
/-! ### the laws of the forms, with the types' facts found -/
theorem x_bld {t : TypeId} {places : Array (Nat × Nat)} {z cells : Array Value} {parts : Array (Nat × Value)} [i : Bld P t places z] (hf : Instr.fill (places[·]?) z parts.toList = some cells) (h : KW (.agg cells) W) : RunV P (Instr.build t parts) W KW := by
  obtain ⟨fs, h1, h2⟩ := i.st
  exact v_build i.zero h1 h2 hf h
theorem x_len {t ty : TypeId} {l : List UInt8} [u : Und P t .string] (h : K (nV .i64 l.length)) : RunW P (Builtin.len_ #[t] ty #[.string ⟨l.toArray⟩]) W K := w_lenL u.eq h
theorem x_lens {S : World → Prop} {t ty : TypeId} {l : List UInt8} [u : Und P t .string] (h : K (nV .i64 l.length)) : RunS P S (Builtin.len_ #[t] ty #[.string ⟨l.toArray⟩]) K := s_lenL u.eq h
theorem x_lenS {t e ty : TypeId} {v : Value} {sz n : Nat} {cs : List Value} {w0 : World} [u : Und P t (.slice e)] (hs : Sl w0 sz v n cs) (h : K (nV .i64 n)) : RunW P (Builtin.len_ #[t] ty #[v]) W K := w_lenS u.eq hs h
theorem x_lenSs {S : World → Prop} {t e ty : TypeId} {v : Value} {sz n : Nat} {cs : List Value} {w0 : World} [u : Und P t (.slice e)] (hs : Sl w0 sz v n cs) (h : K (nV .i64 n)) : RunS P S (Builtin.len_ #[t] ty #[v]) K := s_lenS u.eq hs h
theorem x_index {t : TypeId} {k : IntKind} {i : Nat} {l : List UInt8} {c : UInt8} [u : Und P t .string] (hc : l[i]? = some c) (h : K (byteV c)) : RunA P (Instr.index t (.string ⟨l.toArray⟩) (.int k (i : Int))) K := a_indexL u.eq hc h
theorem x_conv {src dst : TypeId} {d0 : TypeDesc} {k k' : IntKind} {a : Int} [u : Und P src d0] [u' : Und P dst (.int k)] (h : KW (.int k (k.wrap a)) W) : RunV P (convert src dst (.int k' a)) W KW := v_conv u.eq u'.eq h
theorem x_str {src dst e : TypeId} {v : Value} {l : List UInt8} [u : Und P src (.slice e)] [u1 : Und P e (.int .u8)] [u2 : Und P dst .string] (hv : By W v l) (h : KW (.string ⟨l.toArray⟩) W) : RunV P (convert src dst v) W KW := v_str u.eq u1.eq u2.eq hv h
theorem x_cutH {t : TypeId} {k' : IntKind} {l : List UInt8} {hi : Nat} [u : Und P t .string] (h2 : hi ≤ l.length) (h : K (.string ⟨(l.take hi).toArray⟩)) : RunA P (Instr.sliceAt t (.string ⟨l.toArray⟩) none (some (.int k' (hi : Int))) none) K := a_sliceStrH u.eq h2 h
theorem x_cutL {t : TypeId} {k : IntKind} {l : List UInt8} {lo : Nat} [u : Und P t .string] (h2 : lo ≤ l.length) (h : K (.string ⟨(l.drop lo).toArray⟩)) : RunA P (Instr.sliceAt t (.string ⟨l.toArray⟩) (some (.int k (lo : Int))) none none) K := a_sliceStrL u.eq h2 h
theorem x_cut {t : TypeId} {k k' : IntKind} {l : List UInt8} {lo hi : Nat} [u : Und P t .string] (h1 : lo ≤ hi) (h2 : hi ≤ l.length) (h : K (.string ⟨((l.drop lo).take (hi - lo)).toArray⟩)) : RunA P (Instr.sliceAt t (.string ⟨l.toArray⟩) (some (.int k (lo : Int))) (some (.int k' (hi : Int))) none) K := a_sliceStr u.eq h1 h2 h
theorem x_eqb {t : TypeId} {X Y : Operand} {a b : Bool} [u : Und P t .bool] (h : K (.bool (a == b))) : RunW P (bin .eql t X Y (.bool a) (.bool b)) W K := w_eqlb u.eq h
theorem x_neb {t : TypeId} {X Y : Operand} {a b : Bool} [u : Und P t .bool] (h : K (.bool (!(a == b)))) : RunW P (bin .neq t X Y (.bool a) (.bool b)) W K := w_neqb u.eq h
theorem x_eqB {t : TypeId} {X Y : Operand} {a b : UInt8} (h : K (.bool (decide (a = b)))) : RunW P (bin .eql t X Y (byteV a) (byteV b)) W K :=
  w_eql (by
    have : decide (((a.toNat : Nat) : Int) = ((b.toNat : Nat) : Int)) = decide (a = b) := decide_eq_decide.2 ⟨fun h => UInt8.toNat_inj.1 (by exact_mod_cast h), fun h => by rw [h]⟩
    rw [this]; exact h)
theorem x_neB {t : TypeId} {X Y : Operand} {a b : UInt8} (h : K (.bool (decide (a ≠ b)))) : RunW P (bin .neq t X Y (byteV a) (byteV b)) W K :=
  w_neq (by
    have : decide (((a.toNat : Nat) : Int) ≠ ((b.toNat : Nat) : Int)) = decide (a ≠ b) := decide_eq_decide.2 (not_congr ⟨fun h => UInt8.toNat_inj.1 (by exact_mod_cast h), fun h => by rw [h]⟩)
    rw [this]; exact h)
theorem x_nilP {t e : TypeId} {X Y : Operand} {p : Option Addr} [u : Und P t (.pointer e)] (h : K (.bool p.isNone)) : RunW P (bin .eql t X Y (.pointer p) (.pointer none)) W K := w_nilP u.eq h
theorem x_nilPn {t e : TypeId} {X Y : Operand} {p : Option Addr} [u : Und P t (.pointer e)] (h : K (.bool (!p.isNone))) : RunW P (bin .neq t X Y (.pointer p) (.pointer none)) W K := w_nilPn u.eq h
theorem x_nilF {t : TypeId} {X Y : Operand} {ps rs : Array TypeId} {vr : Bool} {f : Fn} {a b : Array Value} [u : Und P t (.func ps rs vr)] (h : K (.bool false)) : RunW P (bin .eql t X Y (.func f a b) .nilFunc) W K := w_nilFn u.eq h
theorem x_nilFF {t : TypeId} {X Y : Operand} {ps rs : Array TypeId} {vr : Bool} [u : Und P t (.func ps rs vr)] (h : K (.bool true)) : RunW P (bin .eql t X Y .nilFunc .nilFunc) W K :=
  .of (by
    have he : (Op.equal t .nilFunc .nilFunc).run P W = .ok true W := by
      have h : ∀ d, (Op.equalIn (d + 1) t .nilFunc .nilFunc).run P W = .ok true W := fun d => by simp [Op.equalIn, run_underlying u.eq]
      exact h 9999
    show (do eqGuard .eql t X Y .nilFunc .nilFunc; pure (Value.bool (← Op.equal t .nilFunc .nilFunc)) : Sem Value).run P W = _
    simp [eqGuard, he]) h
theorem a_fld0 {s : TypeId} {i off b : Nat} [f : Fld P s i off] (h : K (.pointer (some ⟨b, off, none⟩))) : RunA P (Instr.fieldAt s (.pointer (some ⟨b, 0, none⟩)) i) K := f.at_ (by rw [Nat.zero_add]; exact h)
theorem a_fld {s : TypeId} {i off b o : Nat} [f : Fld P s i off] (h : K (.pointer (some ⟨b, o + off, none⟩))) : RunA P (Instr.fieldAt s (.pointer (some ⟨b, o, none⟩)) i) K := f.at_ h
theorem St.load {b j : Nat} {t t' : TypeId} {cs : List Value} {v z : Value} {R : List As} [i : Has l b (Ob (.cells cs.toArray t (0, 0))) R] [T : Ty1 P t' z] [n : Nth cs j v] (h : St w0 G l W) (k : K v) : RunW P (Instr.loadAt t' (.pointer (some ⟨b, j, none⟩))) W K :=
  w_recF T.agg h.rc n.eq k
theorem St.loadS {b n : Nat} {t t' : TypeId} {cs zs : List Value} {R : List As} [i : Has l b (Ob (.cells cs.toArray t (0, 0))) R] [T : TyS P t' n zs] [l1 : Len cs n] (h : St w0 G l W) (k : K (.agg cs.toArray)) : RunW P (Instr.loadAt t' (.pointer (some ⟨b, 0, none⟩))) W K :=
  .of (by
    have := run_loadCells_list (P := P) W ⟨b, 0, none⟩ cs (fun j v hj => by rw [addr_add, Nat.zero_add]; exact h.rc.cell hj)
    simp [Instr.loadAt, Instr.sureAddr, loadVar, T.agg, T.size, ← l1.eq, this]) k
theorem St.store {b j : Nat} {t t' : TypeId} {cs cs' : List Value} {u v z : Value} {R : List As} [i : Has l b (Ob (.cells cs.toArray t (0, 0))) R] [T : Ty1 P t' z] [n : Nth cs j u] [n' : SetN cs j v cs'] [o : Cel1 v] (h : St w0 G l W)
    (k : ∀ W', St w0 G (Ky b (Ob (.cells cs'.toArray t (0, 0))) :: R) W' → KU W') : RunU P (Instr.storeAt t' (.pointer (some ⟨b, j, none⟩)) v) W KU :=
  u_recF T.agg T.size o.one h.rc n.eq fun W' hr hm => k W' (h.setB (o := .cells cs.toArray t (0, 0)) hm (n'.eq ▸ hr))
theorem St.storeS {b n : Nat} {t : TypeId} {cs cs' zs : List Value} {R : List As} [i : Has l b (Ob (.cells cs.toArray t (0, 0))) R] [T : TyS P t n zs] [o : OneL cs'] [l1 : Len cs n] [l2 : Len cs' n] (h : St w0 G l W)
    (k : ∀ W', St w0 G (Ky b (Ob (.cells cs'.toArray t (0, 0))) :: R) W' → KU W') : RunU P (Instr.storeAt t (.pointer (some ⟨b, 0, none⟩)) (.agg cs'.toArray)) W KU :=
  u_rec (l1.eq ▸ T.size) (l2.eq.trans l1.eq.symm) o.one h.rc fun W' hr hm => k W' (h.setB (o := .cells cs.toArray t (0, 0)) hm hr)
theorem St.alloc {t : TypeId} {z : Value} [T : Ty1 P t z] (h : St w0 G l W) (k : ∀ b W', St w0 G (Ky b (Ob (.cells [z].toArray t (0, 0))) :: l) W' → KW (.pointer (some ⟨b, 0, none⟩)) W') : RunV P (Instr.alloc t true (.tuple #[])) W KW :=
  v_allocBox T.zero T.one fun W' _ hb hm => k _ W' (h.newB hm (Nat.le_refl _) hb)
theorem St.allocS {t : TypeId} {n : Nat} {zs : List Value} [T : TyS P t n zs] (h : St w0 G l W) (k : ∀ b W', St w0 G (Ky b (Ob (.cells zs.toArray t (0, 0))) :: l) W' → KW (.pointer (some ⟨b, 0, none⟩)) W') : RunV P (Instr.alloc t true (.tuple #[])) W KW :=
  v_allocRec T.zero fun W' _ hb hm => k _ W' (h.newB hm (Nat.le_refl _) hb)
theorem St.boxV {t : TypeId} {v : Value} [o : Cel1 v] (h : St w0 G l W) (k : ∀ b W', St w0 G (Ky b (Ob (.cells [v].toArray t (0, 0))) :: l) W' → KW (.pointer (some ⟨b, 0, none⟩)) W') : RunV P (Instr.box t v) W KW :=
  v_boxBox o.one fun W' _ hb hm => k _ W' (h.newB hm (Nat.le_refl _) hb)
theorem St.boxS {t : TypeId} {cs : List Value} (h : St w0 G l W) (k : ∀ b W', St w0 G (Ky b (Ob (.cells cs.toArray t (0, 0))) :: l) W' → KW (.pointer (some ⟨b, 0, none⟩)) W') : RunV P (Instr.box t (.agg cs.toArray)) W KW :=
  v_boxRec fun W' _ hb hm => k _ W' (h.newB hm (Nat.le_refl _) hb)
/-! ### in a region that draws its order -/
theorem ss_load {b j : Nat} {t t' : TypeId} {cs : List Value} {v z : Value} {R : List As} [i : Has l b (Ob (.cells cs.toArray t (0, 0))) R] [T : Ty1 P t' z] [n : Nth cs j v] (k : K v) : RunS P (St w0 G l) (Instr.loadAt t' (.pointer (some ⟨b, j, none⟩))) K :=
  s_recF (t0 := t) T.agg (fun w hw => hw.rc (b := b) (t := t) (cs := cs)) n.eq k
theorem ss_loadS {b n : Nat} {t t' : TypeId} {cs zs : List Value} {R : List As} [i : Has l b (Ob (.cells cs.toArray t (0, 0))) R] [T : TyS P t' n zs] [l1 : Len cs n] (k : K (.agg cs.toArray)) : RunS P (St w0 G l) (Instr.loadAt t' (.pointer (some ⟨b, 0, none⟩))) K :=
  ⟨_, fun w hw => by
    obtain ⟨v, h1, h2⟩ := hw.loadS (P := P) (b := b) (t := t) (cs := cs) (t' := t') (K := fun v => v = .agg cs.toArray) rfl
    rw [h1, h2], k⟩
theorem ss_str {src dst e : TypeId} {v : Value} {bs : List UInt8} [u : Und P src (.slice e)] [u1 : Und P e (.int .u8)] [u2 : Und P dst .string] (hv : ∀ w, St w0 G l w → By w v bs) (k : K (.string ⟨bs.toArray⟩)) : RunS P (St w0 G l) (convert src dst v) K :=
  ⟨_, fun w hw => by
    obtain ⟨x, w', h1, h2, h3⟩ := x_str (P := P) (src := src) (dst := dst) (W := w) (KW := fun x w' => x = .string ⟨bs.toArray⟩ ∧ w' = w) (hv w hw) ⟨rfl, rfl⟩
    rw [h1, h2, h3], k⟩
theorem ss_eqb {S : World → Prop} {t : TypeId} {X Y : Operand} {a b : Bool} [u : Und P t .bool] (h : K (.bool (a == b))) : RunS P S (bin .eql t X Y (.bool a) (.bool b)) K :=
  ⟨_, fun w hw => by
    obtain ⟨x, h1, h2⟩ := x_eqb (P := P) (W := w) (K := fun v => v = .bool (a == b)) (t := t) (X := X) (Y := Y) rfl
    rw [h1, h2], h⟩
/-- what a region that draws its order may ask of memory -/
theorem s_of {S : World → Prop} {m : Sem Value} {v : Value} (h : ∀ w, S w → RunW P m w fun x => x = v) (k : K v) : RunS P S m K := by
  refine ⟨v, fun w hw => ?_, k⟩
  obtain ⟨x, h1, h2⟩ := h w hw
  rw [h1, h2]
theorem s_ld {S : World → Prop} {b j : Nat} {t t' : TypeId} {cs : List Value} {v z : Value} [T : Ty1 P t' z] (hS : ∀ w, S w → Rec w b t cs) (hj : cs[j]? = some v) (k : K v) : RunS P S (Instr.loadAt t' (.pointer (some ⟨b, j, none⟩))) K := s_recF T.agg hS hj k

/-! ### slices that can grow -/
theorem own_block_some {W : World} {base : Nat} {e : TypeId} {sz n : Nat} {xs : List Value} {v : Value} (h : W.ownsRow base e sz v n xs) : (v = .slice none 0 0 ∧ n = 0 ∧ xs = []) ∨ ∃ g cap, v = .slice (some ⟨g, 0, none⟩) n cap ∧ n ≤ cap := by
  rcases h.2 with ⟨rfl, rfl⟩ | ⟨g, cap, cur, rfl, hg, hh, hn, r⟩
  · exact .inl ⟨rfl, rfl, List.eq_nil_of_length_eq_zero (by simpa using h.1)⟩
  · exact .inr ⟨g, cap, rfl, hn⟩
/-- 'append': the row is where it was, or in a new block -/
theorem v_app2 {t e ty : TypeId} {sz bytes : Nat} {z : Value} (hT : ElT P t e sz bytes z) {v : Value} {n : Nat} {xs : List Value} (hown : W.ownsRow 0 e sz v n xs)
    {u : Value} {m : Nat} {news : List Value} (hu : Sl W sz u m news) (h1 : ∀ c ∈ news, c.oneCell' = true) (hm : n + m ≤ maxLen) (hb : (n + m) * bytes ≤ 140737488355328)
    (h : ∀ v' w', w'.ownsRow 0 e sz v' (n + m) (xs ++ news) → W.grownBy w' v.ownBlock → (v' = .slice none 0 0 ↔ v = .slice none 0 0 ∧ m = 0) → (∀ k, v'.ownBlock = some k → v.ownBlock = some k ∨ W.heap.size ≤ k) → KW v' w') : RunV P (Builtin.append_ #[t, t] ty #[v, u]) W KW := by
  rcases own_block_some hown with ⟨rfl, rfl, rfl⟩ | ⟨g, cap, rfl, hnc⟩
  · exact v_app (base := W.heap.size) hT own_nil hu h1 hm hb (Nat.le_refl _) fun v' w' g1 g2 g3 => h v' w' (own_mono g1 (Nat.zero_le _)) g2 g3 fun k hk => .inr (own_base g1 k hk)
  · obtain ⟨i, hi, hz, hs, hby⟩ := info_parts hT.info
    obtain ⟨ao, cu, rfl, hmc, hl, hc, hnil⟩ := hu
    cases ao with
    | none =>
      obtain rfl : cu = 0 := hnil rfl
      obtain rfl : m = 0 := by omega
      have : news = [] := List.eq_nil_of_length_eq_zero (by simpa using hl)
      subst this
      exact .of (run_append_owned_none (P := P) W 0 t ty e i sz hT.und hi _ n xs hown) (h _ _ (by simpa using hown) ⟨rfl, rfl, rfl, Nat.le_refl _, fun _ _ _ => rfl⟩ (by simp) fun k hk => .inl hk)
    | some a =>
      have hcell : ∀ j x, news[j]? = some x → W.cell? (a.add j) = some x := fun j x hj => by obtain ⟨b', o', e1, e2⟩ := hc j x hj; cases e1; rw [addr_add]; exact e2
      obtain ⟨v', w', hr, h2, h3, h4⟩ := run_append_own (P := P) W 0 t ty e i z sz bytes hT.und hi hz hs hby hT.cells hT.pos _ n xs hown a m cu news hl hcell h1 hm hb (Nat.zero_le _)
      refine .of hr (h v' w' h2 h3 h4 ?_)
      intro k hk
      by_cases hroom : n + m ≤ cap
      · obtain ⟨w2, hr2, _⟩ := run_append_fits (P := P) W 0 t ty e i sz hT.und hi hs g n cap xs hown a m cu news hl hcell h1 hroom
        rw [hr] at hr2
        cases hr2
        exact .inl hk
      · have hr2 := run_append_grow (P := P) W t ty e i z hT.und hi hz ⟨g, 0, none⟩ n cap xs (by rw [hs]; exact hown.1) (hown.cells (g := g) rfl) a m cu news (by rw [hs]; exact hl) hcell (by omega) (by simp only [maxLen] at hm; omega) (growslice_fits (by omega) (by rw [hby]; exact hb))
        rw [hr] at hr2
        cases hr2
        cases hk
        exact .inr (Nat.le_refl _)
theorem St.app {t e ty : TypeId} {sz bytes : Nat} {z : Value} {v : Value} {n : Nat} {xs : List Value} {R : List As} [i : Has l v (Ow e sz n xs) R] [S : SlT P t e sz bytes z] (h : St w0 G l W) {u : Value} {m : Nat} {news : List Value} (hu : Sl W sz u m news) (h1 : ∀ c ∈ news, c.oneCell' = true) (hm : n + m ≤ maxLen) (hb : (n + m) * bytes ≤ 140737488355328)
    (k : ∀ v' W', Cel1 v' → St w0 G (Ky v' (Ow e sz (n + m) (xs ++ news)) :: R) W' → (v' = .slice none 0 0 ↔ v = .slice none 0 0 ∧ m = 0) → KW v' W') : RunV P (Builtin.append_ #[t, t] ty #[v, u]) W KW :=
  v_app2 S.el (h.ow (v := v)) hu h1 hm hb fun v' W' g1 g2 g3 g4 => k v' W' (.of_own g1) (h.setOw (v := v) g2 g1 g4) g3
/-- a slice written out -/
theorem St.litB {t e : TypeId} {sz bytes n : Nat} {z : Value} {ps : List (Nat × Value)} {vs cs : List Value} [S : SlT P t e sz bytes z] [p : Prt ps 0 vs] [c : CellsL sz vs cs] [ln : Len vs n] (h : St w0 G l W)
    (k : ∀ v W', Cel1 v → Below W.heap.size W W' → St w0 G (Ky v (Ow e sz n cs) :: l) W' → KW v W') (hm : n * sz ≤ 16777216 := by decide) : RunV P (Instr.buildSlice t n ps.toArray) W KW := by
  have hn := ln.eq
  have hpos := S.el.pos
  have hfill := fill_all (sz := sz) vs 0 ((Array.range (n * sz)).map ((if n * sz = 0 then #[] else z.cells : Array Value)[· % (if n * sz = 0 then #[] else z.cells : Array Value).size]!)) (by simp [hn]) c.size
  rw [Nat.zero_mul, List.take_zero, List.nil_append, c.eq, ← p.eq] at hfill
  have hlen : cs.length = n * sz := by
    rw [← c.eq, List.length_flatMap, ← hn]
    have : ∀ (vs : List Value), (∀ v ∈ vs, v.cells.size = sz) → (vs.map fun v => v.cells.toList.length).sum = vs.length * sz := by
      intro vs
      induction vs with
      | nil => intro _; simp
      | cons v vs ih =>
        intro h
        rw [List.map_cons, List.sum_cons, ih (fun u hu => h u (by simp [hu])), Array.length_toList, h v (by simp), List.length_cons, Nat.succ_mul, Nat.add_comm]
    exact this vs c.size
  have hnm : n ≤ maxLen := by
    have : n ≤ n * sz := Nat.le_mul_of_pos_right _ hpos
    unfold maxLen; omega
  refine .of (v := .slice (some ⟨W.heap.size, 0, none⟩) n n) (w' := W.alloc (.cells cs.toArray e)) ?_ ?_
  · have hgt : ¬ (n * sz > 2 ^ 24) := by omega
    simp only [Instr.buildSlice, Sem.run_bind, run_underlying S.el.und, Result.andThen, S.el.size]
    by_cases h0 : n * sz = 0
    · rw [if_pos h0] at hfill
      rw [h0] at hfill
      rw [h0, if_neg (by decide), if_pos rfl]
      simp only [Sem.run_bind, Sem.run_pure, Result.andThen]
      rw [hfill]
      simp [newRow, Sem.run_bind, Sem.run_pure, Result.andThen, run_newObj_alloc]
    · rw [if_neg h0] at hfill
      simp only [if_neg hgt, if_neg h0, Sem.run_bind, Sem.run_pure, Result.andThen, S.el.zero]
      rw [hfill]
      simp [newRow, Sem.run_bind, Sem.run_pure, Result.andThen, run_newObj_alloc]
  · have how := World.ownsRow_lit (base := W.heap.size) (e := e) (size := sz) W cs.toArray n (Nat.le_refl _) hnm (by simpa using hlen)
    exact k _ _ ⟨rfl⟩ ((Below.refl _ W).alloc (Nat.le_refl _) _) (h.newOw (B := W.heap.size) ((Below.refl _ W).alloc (Nat.le_refl _) _) (by simpa using how) (Nat.le_refl _))
theorem St.lit {t e : TypeId} {sz bytes n : Nat} {z : Value} {ps : List (Nat × Value)} {vs cs : List Value} [S : SlT P t e sz bytes z] [p : Prt ps 0 vs] [c : CellsL sz vs cs] [ln : Len vs n] (h : St w0 G l W)
    (k : ∀ v W', Cel1 v → St w0 G (Ky v (Ow e sz n cs) :: l) W' → KW v W') (hm : n * sz ≤ 16777216 := by decide) : RunV P (Instr.buildSlice t n ps.toArray) W KW :=
  h.litB (fun v W' o _ h => k v W' o h) hm
/-- 'append(v, x)' -/
theorem St.push {t e ty : TypeId} {bytes : Nat} {z : Value} {v x : Value} {n : Nat} {xs : List Value} {R : List As} [i : Has l v (Ow e 1 n xs) R] [S : SlT P t e 1 bytes z] (h : St w0 G l W) [o : Cel1 x] (hm : n + 1 ≤ maxLen) (hb : (n + 1) * bytes ≤ 140737488355328)
    (k : ∀ v' W', Cel1 v' → St w0 G (Ky v' (Ow e 1 (n + 1) (xs ++ [x])) :: R) W' → v' ≠ .slice none 0 0 → KW v' W') :
    RunV P (Instr.buildSlice t 1 #[(0, x)]) W fun u w1 => RunV P (Builtin.append_ #[t, t] ty #[v, u]) w1 KW := by
  refine v_lit1 S.el o.one ?_
  refine (h.ext ((Below.refl _ W).alloc (Nat.le_refl _) _)).app (m := 1) (news := [x]) (Sl.of_own (own_lit (base := 0) (Nat.zero_le _) rfl (by unfold maxLen; omega))) (by simpa using o.one) hm hb fun v' W' o' h' h3 => ?_
  exact k v' W' o' h' fun hn => absurd (h3.1 hn).2 (by decide)
/-- an element of what is owned, set -/
theorem St.setI {t e : TypeId} {sz bytes : Nat} {z : Value} {v : Value} {n j : Nat} {xs : List Value} {R : List As} {k0 : IntKind} [i : Has l v (Ow e sz n xs) R] [S : SlT P t e sz bytes z] (h : St w0 G l W) (hj : j < n)
    (k : ∀ g cap, v = .slice (some ⟨g, 0, none⟩) n cap → W.heap[g]? ≠ none → K (.pointer (some ⟨g, j * sz, none⟩))) : RunA P (Instr.indexAt t v (.int k0 (j : Int))) K := by
  rcases own_block_some (h.ow (v := v)) with ⟨rfl, rfl, _⟩ | ⟨g, cap, rfl, hnc⟩
  · omega
  · refine a_indexAt S.el.und S.el.size (by omega) (by omega) ?_
    rw [Nat.zero_add, Int.toNat_natCast]
    refine k g cap rfl ?_
    obtain ⟨_, hh⟩ := h.ow (v := .slice (some ⟨g, 0, none⟩) n cap)
    rcases hh with ⟨h, _⟩ | ⟨g', c', cur, h, _, hg, _⟩
    · cases h
    · cases h; rw [hg]; simp
theorem St.storeI {e t' : TypeId} {sz : Nat} {z' : Value} {x : Value} {n cap q g : Nat} {xs : List Value} {R : List As} [i : Has l (.slice (some ⟨g, 0, none⟩) n cap) (Ow e sz n xs) R] [T : Ty1 P t' z'] (h : St w0 G l W) [o : Cel1 x] (hq : q < n * sz)
    (k : ∀ W', St w0 G (Ky (.slice (some ⟨g, 0, none⟩) n cap) (Ow e sz n (xs.set q x)) :: R) W' → KU W') : RunU P (Instr.storeAt t' (.pointer (some ⟨g, q, none⟩)) x) W KU := by
  have how := h.ow (v := .slice (some ⟨g, 0, none⟩) n cap)
  have hlen := how.1
  have hc := how.cellAt q hq
  rw [List.getElem?_eq_getElem (by omega)] at hc
  refine u_store T.agg T.size o.one hc (how.frozenAt q) ?_
  have hs := how.stored q x
  exact k _ (h.setOw (v := .slice (some ⟨g, 0, none⟩) n cap) (e := e) (sz := sz) (n := n) (xs := xs) hs.2 hs.1 fun k hk => .inl hk)
end
end Go.Ez
