/-
  MAPS IN ORDER ([string, []handbill/vers.Version[string]]): a key held against another, its place: what each function answers.
-/
import Derived.Test.YtffnabbchghokaaOmP
import Derived.Test.YtffnabbchghokaaTy
import Derived.Test.YtffnabbchghokaaSh
import Derived.Test.YtffnabbchghokaaOmOv
namespace Go.Proofs.Ytffnabbchghokaa
open Go Go.Ez Go.RowKit
set_option linter.unusedSimpArgs false
set_option linter.unusedVariables false

theorem isNaNvs_spec {a : Txt} {w : World} {R : Value → World → Prop} (h : R (.bool false) w) : CallF Try.prog 141 #[Enc.enc a] w R := by
  refine sh141_calls ?_
  unfold sh141
  refine (show RunW Try.prog (bin .neq _ _ _ (Enc.enc a) (Enc.enc a)) w _ from ?_)
  first
  | (refine w_neqL ?_; rw [decide_eq_false (by simp)]; exact h)
  | (refine w_neq ?_; rw [decide_eq_false (by simp)]; exact h)
theorem cmpvs_spec {a b : Txt} {w : World} {R : Value → World → Prop} (h : R (.int .i64 (cmpV a b)) w) : CallF Try.prog 129 #[Enc.enc a, Enc.enc b] w R := by
  refine sh129_calls ?_
  unfold sh129
  refine isNaNvs_spec ?_
  refine isNaNvs_spec ?_
  refine iff' (iff' ?_)
  have e1 : OKey.lt a b = true → R (.int .i64 (-1)) w := fun h1 => by unfold cmpV at h; rw [if_pos h1] at h; exact h
  have e2 : OKey.lt a b = false → OKey.lt b a = true → R (.int .i64 1) w := fun h1 h2 => by unfold cmpV at h; rw [h1, h2] at h; exact h
  have e3 : OKey.lt a b = false → OKey.lt b a = false → R (.int .i64 0) w := fun h1 h2 => by unfold cmpV at h; rw [h1, h2] at h; exact h
  first
  | (refine x_lssL (ifb e1 fun h1 => ?_)
     exact x_gtrL (ifb (e2 h1) (e3 h1)))
  | (refine a_lss (ifb e1 fun h1 => ?_)
     exact a_gtr (ifb (e2 h1) (e3 h1)))

theorem find1vs_spec {a k : Txt} {v : OneV} {w : World} {R : Value → World → Prop} (h : ∀ w', Below w.heap.size w w' → R (.int .i64 (cmpV a k)) w') : CallF Try.prog 134 #[.agg [Enc.enc a, Enc.enc v].toArray, Enc.enc k] w R := by
  refine sh134_calls ?_
  unfold sh134
  have hR := h
  have h := St.start w
  refine h.boxS fun b W h => ?_
  (repeat (first | (with_reducible refine ift ?_) | (with_reducible refine iff' ?_) | (with_reducible refine a_lss ?_) | (with_reducible refine a_leq ?_) | (with_reducible refine a_gtr ?_) | (with_reducible refine a_geq ?_) | (with_reducible refine w_eql ?_) | (with_reducible refine w_neq ?_) | (with_reducible refine s_eql ?_) | (with_reducible refine s_neq ?_) | ((with_reducible refine a_add64 ?h0 ?h1 ?_); (case h0 => omega); (case h1 => omega);  skip) | ((with_reducible refine a_sub64 ?h0 ?h1 ?_); (case h0 => omega); (case h1 => omega);  skip) | ((with_reducible refine a_mul64 ?h0 ?h1 ?_); (case h0 => omega); (case h1 => omega);  skip) | (with_reducible refine a_notd ?_) | (with_reducible refine a_not ?_) | (with_reducible refine a_ext0 ?_) | (with_reducible refine a_ext1 ?_) | (with_reducible refine a_ext2 ?_) | (with_reducible refine x_len ?_) | (with_reducible refine x_lens ?_) | (with_reducible refine x_eqb ?_) | (with_reducible refine x_neb ?_) | (with_reducible refine x_nilP ?_) | (with_reducible refine x_nilPn ?_) | (with_reducible refine x_nilF ?_) | (with_reducible refine x_nilFF ?_) | (with_reducible refine w_eqlL ?_) | (with_reducible refine w_neqL ?_) | (with_reducible refine s_eqlL ?_) | (with_reducible refine ifnt ?_) | (with_reducible refine ifnf ?_) | (with_reducible refine x_eqB ?_) | (with_reducible refine x_neB ?_) | (with_reducible refine x_lssL ?_) | (with_reducible refine x_gtrL ?_) | (with_reducible refine x_geqL ?_) | (with_reducible refine s_neqL ?_) | (with_reducible refine St.load h ?_) | (with_reducible refine St.loadS h ?_) | (with_reducible refine a_fld0 ?_) | (with_reducible refine St.store h fun W h => ?_) | (with_reducible refine St.storeS h fun W h => ?_) | (with_reducible refine St.alloc h fun b W h => ?_) | (with_reducible refine St.allocS h fun b W h => ?_) | (with_reducible refine a_nil ?_) | (with_reducible refine ss_load ?_) | (with_reducible refine ss_loadS ?_) | (with_reducible refine ss_eqb ?_)))
  exact cmpvs_spec (hR W h.low)

/-- the place of a key -/
theorem searchvs_spec {m : List (Txt × OneV)} {k : Txt} {v : Value} {w : World} {R : Value → World → Prop} (hs : Srt m) (hv : Sl w 2 v m.length (pcells m)) (hl : m.length ≤ 1000000000)
    (h : ∀ w', Below w.heap.size w w' → R (.tuple #[nV .i64 (posK k m), .bool (hasK k m)]) w') :
    CallF Try.prog 133 #[v, Enc.enc k, .func (.func 134) #[] #[]] w R := by
  refine sh133_calls ?_
  unfold sh133
  have hp := posK_le k m
  have call : ∀ (i : Nat) (p : Txt × OneV) (W : World) (KK : Value → World → Prop), m[i]? = some p → Below w.heap.size w W → (∀ W', Below w.heap.size w W' → KK (.int .i64 (cmpV p.1 k)) W') →
      RunA Try.prog (Instr.indexAt 157 v (nV .i64 i)) fun q => RunW Try.prog (Instr.loadAt 163 q) W fun x => CallV Try.prog (.func (.func 134) #[] #[]) #[x, Enc.enc k] W KK := by
    intro i p W KK hi hW hK
    have hil := (List.getElem?_eq_some_iff.1 hi).1
    refine x_idx hv hil fun b o hc => ?_
    have hg := pcells_get hi
    refine x_lds (cs := [Enc.enc p.1, Enc.enc p.2]) rfl (fun j u hu => ?_) ?_
    · have hj : j < 2 := by have := (List.getElem?_eq_some_iff.1 hu).1; simpa using this
      have hx : (pcells m)[i * 2 + j]? = some u := by
        match j, hj, hu with
        | 0, _, hu => cases hu; exact hg.1
        | 1, _, hu => cases hu; exact hg.2
      have := hc j u hj hx
      rw [hW.cell (p := ⟨b, o + j, none⟩) (World.block_lt_of_cell? _ _ this)]
      exact this
    · exact callV_fn (hent _ (by kernel_rfl)) (find1vs_spec fun W' hb => hK W' (Below.next hW hb))
  refine x_lenS hv ?_
  refine lpx (α := Nat × Nat) (fun x => [nV .i64 x.1, nV .i64 x.2]) (fun x W => Below w.heap.size w W ∧ x.1 ≤ posK k m ∧ posK k m ≤ x.2 ∧ x.2 ≤ m.length) (fun x => x.2 - x.1) (0, m.length) (fun _ => rfl) rfl ⟨Below.refl _ _, Nat.zero_le _, hp, Nat.le_refl _⟩ ?_
  rintro next ⟨i, j⟩ W hnext ⟨hW, h1, h2, h3⟩
  refine app2 ?_
  refine a_lss (ifd (fun hc => ?_) fun hc => ?_)
  · have hij : i < j := by simp only at hc; omega
    refine a_add64 (by omega) (by omega) ?_
    rw [show ((i : Int) + (j : Int)) = ((i + j : Nat) : Int) by push_cast; rfl]
    refine v_convN Try.underlying3 Try.underlying186 (by simp [IntKind.max, IntKind.bits, IntKind.signed]; omega) ?_
    refine a_shrN (m := 1) (by decide) ?_
    refine v_convN Try.underlying186 Try.underlying3 (by simp [IntKind.max, IntKind.bits, IntKind.signed]; omega) ?_
    have hm1 : i ≤ (i + j) / 2 ^ 1 := by omega
    have hm2 : (i + j) / 2 ^ 1 < j := by omega
    generalize (i + j) / 2 ^ 1 = q at *
    refine jni (fun vs W => ∃ i' j', vs = [v, Enc.enc k, .func (.func 134) #[] #[], nV .i64 m.length, nV .i64 i', nV .i64 j'] ∧ (Below w.heap.size w W ∧ i' ≤ posK k m ∧ posK k m ≤ j' ∧ j' ≤ m.length) ∧ j' - i' < j - i) ?_ ?_
    · rintro vs W' _ ⟨i', j', rfl, hI, hlt⟩
      exact ⟨rfl, rfl, rfl, rfl, hnext (i', j') W' hlt hI⟩
    · obtain ⟨p, hpq⟩ : ∃ p, m[q]? = some p := ⟨_, List.getElem?_eq_getElem (by omega)⟩
      refine call q p W _ hpq hW fun W' hW' => ?_
      have hiff := posK_iff (k := k) hs hpq
      refine a_lss (ifd (fun hc => ?_) fun hc => ?_)
      · have := hiff.1 (cmpV_neg.1 hc)
        refine a_add64 (by omega) (by omega) ?_
        rw [show ((q : Int) + 1) = ((q + 1 : Nat) : Int) by push_cast; rfl]
        exact ⟨q + 1, j, rfl, ⟨hW', by omega, h2, h3⟩, by omega⟩
      · have : ¬ q < posK k m := fun hq => hc (cmpV_neg.2 (hiff.2 hq))
        exact ⟨i, q, rfl, ⟨hW', h1, by omega, by omega⟩, by omega⟩
  · have hij : i = posK k m := by simp only at hc h1 h2; omega
    subst hij
    refine a_lss (ifd (fun hc => ?_) fun hc => ?_)
    · obtain ⟨p, hpq⟩ : ∃ p, m[posK k m]? = some p := ⟨_, List.getElem?_eq_getElem (by omega)⟩
      refine call (posK k m) p W _ hpq hW fun W' hW' => ?_
      refine w_eql ?_
      have : decide (cmpV p.1 k = 0) = hasK k m := by
        unfold hasK
        rw [hpq]
        exact decide_eq_decide.2 cmpV_zero
      rw [this]
      exact h W' hW'
    · have : hasK k m = false := by
        unfold hasK
        rw [List.getElem?_eq_none (by omega)]
      have hh := h W hW
      rw [this] at hh
      exact hh
end Go.Proofs.Ytffnabbchghokaa
