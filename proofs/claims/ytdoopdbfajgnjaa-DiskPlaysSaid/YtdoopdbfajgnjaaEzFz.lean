/-
  EZ: maps left alone: read, by whoever knows that they were there at the start; what is made since, laid beside what was.
-/
import Derived.Test.YtdoopdbfajgnjaaEzMap
namespace Go.Ez
open Go Go.Proofs Go.RowKit
set_option linter.unusedSimpArgs false
set_option linter.unusedVariables false

section
variable {κ β : Type} [OKey κ] [Enc κ] [Enc β] {w0 W W' : World} {G : Nat → Prop} {l R : List As} {tm e : TypeId} {m : List (κ × β)} {v : Value}
/-- v points to a map of these pairs, in W -/
def MpZ (tm : TypeId) (m : List (κ × β)) (W : World) (v : Value) : Prop := ∃ b sl, v = .pointer (some ⟨b, 0, none⟩) ∧ Srt m ∧ Cel1 sl ∧ Rec W b tm [sl] ∧ Sl W 2 sl m.length (pcells m)
/-- or is nil, and there are none -/
def MpN (tm : TypeId) (m : List (κ × β)) (W : World) (v : Value) : Prop := (v = .pointer none ∧ m = []) ∨ MpZ tm m W v
theorem St.freeze [i : Has l v (MpX tm e m) R] (h : St w0 G l W) : MpZ tm m W v := by
  obtain ⟨b, sl, h1, h2, o, h⟩ := h.openM (v := v)
  exact ⟨b, sl, h1, h2, o, h.rc, h.osl (v := sl)⟩
theorem MpZ.below (h : MpZ tm m W v) (hb : Below W.heap.size W W') : MpZ tm m W' v := by
  obtain ⟨b, sl, h1, h2, o, h3, h4⟩ := h
  exact ⟨b, sl, h1, h2, o, h3.below hb, h4.below hb⟩
theorem MpN.below (h : MpN tm m W v) (hb : Below W.heap.size W W') : MpN tm m W' v := h.imp id fun h => h.below hb
theorem MpN.one (h : MpN tm m W v) : Cel1 v := by
  rcases h with ⟨rfl, _⟩ | ⟨b, sl, rfl, _⟩ <;> exact ⟨rfl⟩
theorem MpN.srt (h : MpN tm m W v) : Srt m := by
  rcases h with ⟨_, rfl⟩ | ⟨b, sl, _, h, _⟩
  · exact List.Pairwise.nil
  · exact h
end
section
variable {P : Program} {W : World} {K : Value → Prop}
theorem w_ldR {b j : Nat} {t t' : TypeId} {cs : List Value} {v z : Value} [T : Ty1 P t' z] (hr : Rec W b t cs) (hj : cs[j]? = some v) (k : K v) : RunW P (Instr.loadAt t' (.pointer (some ⟨b, j, none⟩))) W K := w_recF T.agg hr hj k
theorem s_neb {S : World → Prop} {t : TypeId} {X Y : Operand} {a b : Bool} [u : Und P t .bool] (h : K (.bool (!(a == b)))) : RunS P S (bin .neq t X Y (.bool a) (.bool b)) K :=
  s_of (v := .bool (!(a == b))) (fun w _ => x_neb rfl) h
theorem s_min {S : World → Prop} {ts : Array TypeId} {t : TypeId} {k k' : IntKind} {a b : Int} (h : K (.int k (min a b))) : RunS P S (Builtin.min_ ts t #[.int k a, .int k' b]) K :=
  ⟨_, fun w hw => by
    obtain ⟨x, h1, h2⟩ := w_min (P := P) (w := w) (ts := ts) (t := t) (k := k) (k' := k') (a := a) (b := b) (K := fun v => v = .int k (min a b)) rfl
    rw [h1, h2], h⟩
end
section
variable {w0 W W' : World} {G : Nat → Prop} {l l' : List As}
/-- what a call made for itself, laid beside what was -/
theorem St.frame (h : St w0 G l W) (h' : St W G0 l' W') : St w0 G (l' ++ l) W' := by
  have hb := h'.low
  have h2 := h.ext hb
  obtain ⟨F, hF, hG⟩ := h.own
  obtain ⟨F', hF', hG'⟩ := h'.own
  refine { h2 with own := ⟨fun b => F' b ∨ F b, sepL_append.2 ⟨F', F, hF', sepL_loc hF fun b h => hb.block b (sepL_lt hF b h), fun b h1 h2 => ?_, fun _ => Iff.rfl⟩, fun b hb => ?_⟩ }
  · rcases hG' b h1 with h3 | h3
    · exact h3.elim
    · have := sepL_lt hF b h2; omega
  · rcases hb with h1 | h1
    · rcases hG' b h1 with h3 | h3
      · exact h3.elim
      · exact .inr (Nat.le_trans h.size h3)
    · exact hG b h1
theorem St.frame1 {A : As} (h : St w0 G l W) (h' : St W G0 [A] W') : St w0 G (A :: l) W' := h.frame h'
end
end Go.Ez
