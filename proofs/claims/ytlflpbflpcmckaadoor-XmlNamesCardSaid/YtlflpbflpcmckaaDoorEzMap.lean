/-
  EZ: a map in order, in memory: its pointer, its pairs.
-/
import Derived.Test.YtlflpbflpcmckaaDoorOmP
namespace Go.Ez
open Go Go.Proofs Go.RowKit
set_option linter.unusedSimpArgs false
set_option linter.unusedVariables false

section
variable {κ β : Type} [OKey κ] [Enc κ] [Enc β] {P : Program} {w0 W : World} {G : Nat → Prop} {l R : List As} {tm e : TypeId} {m : List (κ × β)} {v : Value}

/-- v points to a map of these pairs -/
def MpX (tm e : TypeId) (m : List (κ × β)) (v : Value) : As :=
  As.ex fun p : Nat × Value => As.all (v = .pointer (some ⟨p.1, 0, none⟩) ∧ Srt m) [Ky p.1 (Ob (.cells [p.2].toArray tm (0, 0))), Ky p.2 (Ow e 2 m.length (pcells m))]
theorem St.openM [i : Has l v (MpX tm e m) R] (h : St w0 G l W) : ∃ b sl, v = .pointer (some ⟨b, 0, none⟩) ∧ Srt m ∧ Cel1 sl ∧ St w0 G (Ky b (Ob (.cells [sl].toArray tm (0, 0))) :: Ky sl (Ow e 2 m.length (pcells m)) :: R) W := by
  have h1 : St w0 G (MpX tm e m v :: R) W := h.find (k := v) (X := MpX tm e m)
  obtain ⟨⟨b, sl⟩, h2⟩ := h1.openE
  obtain ⟨⟨hv, hs⟩, h3⟩ := h2.openA
  replace h3 : St w0 G (Ky b (Ob (.cells [sl].toArray tm (0, 0))) :: Ky sl (Ow e 2 m.length (pcells m)) :: R) W := h3
  exact ⟨b, sl, hv, hs, .of_own (h3.ow (v := sl)), h3⟩
theorem St.shutM {b : Nat} {sl : Value} {n : Nat} {cs : List Value} {R1 : List As} [i : Has l b (Ob (.cells [sl].toArray tm (0, 0))) R1] [j : Has R1 sl (Ow e 2 n cs) R] (h : St w0 G l W) (hs : Srt m) (hn : n = m.length) (hc : cs = pcells m) :
    St w0 G (Ky (.pointer (some ⟨b, 0, none⟩)) (MpX tm e m) :: R) W := by
  subst hn; subst hc
  refine St.shutE (f := fun p : Nat × Value => As.all (Value.pointer (some ⟨b, 0, none⟩) = Value.pointer (some ⟨p.1, 0, none⟩) ∧ Srt m) [Ky p.1 (Ob (.cells [p.2].toArray tm (0, 0))), Ky p.2 (Ow e 2 m.length (pcells m))]) (b, sl) (St.shutA ⟨rfl, hs⟩ ?_)
  show St w0 G (Ky b (Ob (.cells [sl].toArray tm (0, 0))) :: Ky sl (Ow e 2 m.length (pcells m)) :: R) W
  obtain ⟨F, hF, hG⟩ := h.own
  exact { h with own := ⟨F, sepL_mono j.to (i.to F W hF), hG⟩ }
theorem St.ptrM [i : Has l v (MpX tm e m) R] (h : St w0 G l W) : ∃ b, v = .pointer (some ⟨b, 0, none⟩) ∧ Srt m := by
  obtain ⟨b, sl, h1, h2, _⟩ := h.openM (v := v)
  exact ⟨b, h1, h2⟩
/-- what is handed back by a call that turns nothing, taken into one's own -/
theorem St.take {W' : World} {sz n : Nat} {xs : List Value} {v' : Value} (h : St w0 G l W) (hb : Below W.heap.size W W') (ho : W'.ownsRow W.heap.size e sz v' n xs) : St w0 G (Ky v' (Ow e sz n xs) :: l) W' := h.newOw hb ho (Nat.le_refl _)
end
section
variable {κ β : Type} [Enc κ] [Enc β] {P : Program} {W : World} {e : TypeId} {m : List (κ × β)}
theorem pcells_sl {v : Value} {i : Nat} {p : κ × β} {K : Value → Prop} {k0 : IntKind} {t : TypeId} {bytes : Nat} {z : Value} {zs : List Value} [S : SlT P t e 2 bytes z] [T : TyS P e 2 zs] (hv : Sl W 2 v m.length (pcells m)) (hi : m[i]? = some p) (k : K (.agg [Enc.enc p.1, Enc.enc p.2].toArray)) :
    RunA P (Instr.indexAt t v (.int k0 (i : Int))) fun q => RunW P (Instr.loadAt e q) W K := by
  have hil := (List.getElem?_eq_some_iff.1 hi).1
  have hg := pcells_get hi
  refine x_idx hv hil fun b o hc => x_lds (cs := [Enc.enc p.1, Enc.enc p.2]) rfl (fun j u hu => ?_) k
  have hj : j < 2 := by have := (List.getElem?_eq_some_iff.1 hu).1; simpa using this
  refine hc j u hj ?_
  match j, hj, hu with
  | 0, _, hu => cases hu; exact hg.1
  | 1, _, hu => cases hu; exact hg.2
theorem pcells_ssl {S' : World → Prop} {w1 : World} {v : Value} {n i : Nat} {p : κ × β} {K : Value → Prop} {k0 : IntKind} {t : TypeId} {bytes : Nat} {z : Value} {zs : List Value} [S : SlT P t e 2 bytes z] [T : TyS P e 2 zs] (hv : Sl w1 2 v n (pcells m)) (hS : ∀ w, S' w → Sl w 2 v n (pcells m)) (hil : i < n) (hi : m[i]? = some p) (k : K (.agg [Enc.enc p.1, Enc.enc p.2].toArray)) :
    RunA P (Instr.indexAt t v (.int k0 (i : Int))) fun q => RunS P S' (Instr.loadAt e q) K := by
  have hg := pcells_get hi
  obtain ⟨ao, cap, rfl, hnc, hl, hc, _⟩ := hv
  obtain ⟨b, o, rfl, _⟩ := hc _ _ hg.1
  refine a_indexAt S.el.und S.el.size (by omega) (by omega) ?_
  rw [Int.toNat_natCast]
  refine ⟨_, fun w hw => ?_, k⟩
  obtain ⟨ao', cap', e1, _, _, hc', _⟩ := hS w hw
  cases e1
  obtain ⟨v', h1, h2⟩ := x_lds (P := P) (W := w) (e := e) (b := b) (o := o + i * 2) (cs := [Enc.enc p.1, Enc.enc p.2]) (K := fun v => v = .agg [Enc.enc p.1, Enc.enc p.2].toArray) rfl (fun j u hu => by
    have hj : j < 2 := by have := (List.getElem?_eq_some_iff.1 hu).1; simpa using this
    have hx : (pcells m)[i * 2 + j]? = some u := by
      match j, hj, hu with
      | 0, _, hu => cases hu; exact hg.1
      | 1, _, hu => cases hu; exact hg.2
    obtain ⟨b', o', e2, e3⟩ := hc' _ _ hx
    cases e2
    rw [Nat.add_assoc]; exact e3) rfl
  rw [h1, h2]
end
end Go.Ez
