/-
  SLICES of string held against one another: what the document's Texts answers.
-/
import Derived.Test.YtdjgchofnkancaaOmP
import Derived.Test.YtdjgchofnkancaaTy
import Derived.Test.YtdjgchofnkancaaSh
namespace Go.Proofs.Ytdjgchofnkancaa
open Go Go.Ez Go.RowKit
set_option linter.unusedSimpArgs false
set_option linter.unusedVariables false

theorem eqsi_spec {xs ys : List Txt} {a b : Value} {n m : Nat} {w : World} {R : Value → World → Prop} (ha : Sl w 1 a n (xs.map Enc.enc)) (hb : Sl w 1 b m (ys.map Enc.enc)) (hl : xs.length ≤ 100000000000)
    (h : ∀ W', Below w.heap.size w W' → R (.bool (decide (xs = ys))) W') : CallF Try.prog 20 #[a, b] w R := by
  refine sh20_calls ?_
  unfold sh20
  have hn : n = xs.length := by obtain ⟨_, _, _, _, h, _⟩ := ha; simpa using h.symm
  have hm : m = ys.length := by obtain ⟨_, _, _, _, h, _⟩ := hb; simpa using h.symm
  subst hn; subst hm
  have bad : ∀ W', Below w.heap.size w W' → xs ≠ ys → R (.bool false) W' := fun W' hw hne => by have := h W' hw; rwa [decide_eq_false hne] at this
  refine x_lenS ha ?_
  refine x_lenS hb ?_
  refine w_neq (ifd (fun hc => bad w (Below.refl _ _) fun he => hc (by rw [he])) fun hc => ?_)
  have hlen : xs.length = ys.length := by have := Classical.not_not.1 hc; omega
  refine lpx (α := Nat) (fun i => [nV .i64 i]) (fun i W => Below w.heap.size w W ∧ i ≤ xs.length ∧ xs.take i = ys.take i) (fun i => xs.length - i) 0 (fun _ => rfl) rfl ⟨Below.refl _ _, Nat.zero_le _, rfl⟩ ?_
  rintro next i W hnext ⟨hW, hi, he⟩
  refine app1 ?_
  refine x_lenS ha ?_
  refine a_lss (ifd (fun hc => ?_) fun hc => ?_)
  · have hil : i < xs.length := by omega
    obtain ⟨x, hx⟩ : ∃ x, xs[i]? = some x := ⟨_, List.getElem?_eq_getElem hil⟩
    obtain ⟨y, hy⟩ : ∃ y, ys[i]? = some y := ⟨_, List.getElem?_eq_getElem (by omega)⟩
    refine ⟨fun W' => Below w.heap.size w W', hW.drew, ?_⟩
    refine x_sat ha (fun W' hW' => ha.below hW') (by rw [List.getElem?_map, hx]; rfl) ?_
    refine x_sat hb (fun W' hW' => hb.below hW') (by rw [List.getElem?_map, hy]; rfl) ?_
    have hne : ∀ KK : Value → Prop, KK (.bool (decide (x ≠ y))) → ∀ S X Y, RunS Try.prog S (bin .neq 9 X Y (Enc.enc x) (Enc.enc y)) KK := by
      intro KK hk S X Y
      first
      | exact s_neqL hk
      | exact s_neq hk
    refine hne _ ?_ _ _ _
    refine ifd (fun hc => bad _ hW.drew fun he' => ?_) fun hc => ?_
    · rw [he', hy] at hx
      cases hx
      exact hc rfl
    · refine a_add64 (by omega) (by omega) ⟨rfl, rfl, ?_⟩
      rw [show ((i : Int) + 1) = ((i + 1 : Nat) : Int) by push_cast; rfl]
      refine hnext (i + 1) _ (by omega) ⟨hW.drew, by omega, ?_⟩
      have : x = y := Classical.not_not.1 hc
      rw [List.take_add_one, List.take_add_one, hx, hy, he, this]
  · have hil : i = xs.length := by omega
    subst hil
    rw [List.take_length, hlen, List.take_length] at he
    have := h W hW
    rwa [decide_eq_true he] at this
end Go.Proofs.Ytdjgchofnkancaa
