/-
  DiffSteps: two steps, and one: the walk.
-/
import Derived.Test.YtdjgchofnkancaaDfQ
import Derived.Test.YtdjgchofnkancaaDfN
namespace Go.Proofs.Ytdjgchofnkancaa
open Go Go.Ez Go.RowKit
set_option linter.unusedSimpArgs false
set_option linter.unusedVariables false

section
variable {w : World} {R : Value → World → Prop}
/-- hbllaw21.DiffSteps -/
theorem steps_spec {l1 l2 l3 : List (Txt × Txt)} {v1 v2 v3 : Value} (hv1 : Sl w 2 v1 l1.length (pcells l1)) (hv2 : Sl w 2 v2 l2.length (pcells l2)) (hv3 : Sl w 2 v3 l3.length (pcells l3))
    (h : ∀ w', Below w.heap.size w w' → R (.bool true) w') : CallF Try.prog 11 #[v1, v2, v3] w R := by
  refine sh11_calls ?_
  unfold sh11
  have hR := h
  have h := St.start w
  refine first21_spec fun W m => ?_
  replace h := h.ext m
  refine a_not (iff' ?_)
  refine few_spec (h.sl0 hv1) rfl fun b W m hb1 => ?_
  replace h := h.ext m
  refine a_not (ifnb (fun _ => first21_spec fun W m => hR W (h.ext m).low) fun e1 => ?_)
  refine few_spec (h.sl0 hv2) rfl fun b' W m hb2 => ?_
  replace h := h.ext m
  refine a_not (ifnb (fun _ => first21_spec fun W m => hR W (h.ext m).low) fun e2 => ?_)
  refine few_spec (h.sl0 hv3) rfl fun b' W m hb3 => ?_
  replace h := h.ext m
  refine a_not (ifnb (fun _ => first21_spec fun W m => hR W (h.ext m).low) fun e3 => ?_)
  have hl1 := hb1 e1
  have hl2 := hb2 e2
  have hl3 := hb3 e3
  clear hb1 hb2 hb3
  refine map21_spec (h.sl0 hv1) rfl (by omega) fun va W h' => ?_
  replace h := h.frame1 h'
  clear h'
  refine map21_spec (h.sl0 hv2) rfl (by omega) fun vb W h' => ?_
  replace h := h.frame1 h'
  clear h'
  refine map21_spec (h.sl0 hv3) rfl (by omega) fun vc W h' => ?_
  replace h := h.frame1 h'
  clear h'
  have hla := fmap_len l1
  have hlb := fmap_len l2
  have hlc := fmap_len l3
  have ha := fmap_srt l1
  have hb := fmap_srt l2
  have hc := fmap_srt l3
  generalize fmap l1 = a at *
  generalize fmap l2 = b at *
  generalize fmap l3 = c at *
  obtain ⟨ba, rfl, _⟩ := h.ptrM (v := va)
  obtain ⟨bb, rfl, _⟩ := h.ptrM (v := vb)
  obtain ⟨bc, rfl, _⟩ := h.ptrM (v := vc)
  (repeat (first | (with_reducible refine ift ?_) | (with_reducible refine iff' ?_) | (with_reducible refine a_lss ?_) | (with_reducible refine a_leq ?_) | (with_reducible refine a_gtr ?_) | (with_reducible refine a_geq ?_) | (with_reducible refine w_eql ?_) | (with_reducible refine w_neq ?_) | (with_reducible refine s_eql ?_) | (with_reducible refine s_neq ?_) | ((with_reducible refine a_add64 ?h0 ?h1 ?_); (case h0 => omega); (case h1 => omega);  skip) | ((with_reducible refine a_sub64 ?h0 ?h1 ?_); (case h0 => omega); (case h1 => omega);  skip) | ((with_reducible refine a_mul64 ?h0 ?h1 ?_); (case h0 => omega); (case h1 => omega);  skip) | (with_reducible refine a_notd ?_) | (with_reducible refine a_not ?_) | (with_reducible refine a_ext0 ?_) | (with_reducible refine a_ext1 ?_) | (with_reducible refine a_ext2 ?_) | (with_reducible refine x_len ?_) | (with_reducible refine x_lens ?_) | (with_reducible refine x_eqb ?_) | (with_reducible refine x_neb ?_) | (with_reducible refine x_nilP ?_) | (with_reducible refine x_nilPn ?_) | (with_reducible refine x_nilF ?_) | (with_reducible refine x_nilFF ?_) | (with_reducible refine w_eqlL ?_) | (with_reducible refine w_neqL ?_) | (with_reducible refine s_eqlL ?_) | (with_reducible refine ifnt ?_) | (with_reducible refine ifnf ?_) | (with_reducible refine x_eqB ?_) | (with_reducible refine x_neB ?_) | (with_reducible refine x_lssL ?_) | (with_reducible refine x_gtrL ?_) | (with_reducible refine x_geqL ?_) | (with_reducible refine s_neqL ?_) | (with_reducible refine St.load h ?_) | (with_reducible refine St.loadS h ?_) | (with_reducible refine a_fld0 ?_) | (with_reducible refine St.store h fun W h => ?_) | (with_reducible refine St.storeS h fun W h => ?_) | (with_reducible refine St.alloc h fun b W h => ?_) | (with_reducible refine St.allocS h fun b W h => ?_) | (with_reducible refine a_nil ?_) | (with_reducible refine ss_load ?_) | (with_reducible refine ss_loadS ?_) | (with_reducible refine ss_eqb ?_)))
  refine iff' ?_
  (repeat (first | (with_reducible refine ift ?_) | (with_reducible refine iff' ?_) | (with_reducible refine a_lss ?_) | (with_reducible refine a_leq ?_) | (with_reducible refine a_gtr ?_) | (with_reducible refine a_geq ?_) | (with_reducible refine w_eql ?_) | (with_reducible refine w_neq ?_) | (with_reducible refine s_eql ?_) | (with_reducible refine s_neq ?_) | ((with_reducible refine a_add64 ?h0 ?h1 ?_); (case h0 => omega); (case h1 => omega);  skip) | ((with_reducible refine a_sub64 ?h0 ?h1 ?_); (case h0 => omega); (case h1 => omega);  skip) | ((with_reducible refine a_mul64 ?h0 ?h1 ?_); (case h0 => omega); (case h1 => omega);  skip) | (with_reducible refine a_notd ?_) | (with_reducible refine a_not ?_) | (with_reducible refine a_ext0 ?_) | (with_reducible refine a_ext1 ?_) | (with_reducible refine a_ext2 ?_) | (with_reducible refine x_len ?_) | (with_reducible refine x_lens ?_) | (with_reducible refine x_eqb ?_) | (with_reducible refine x_neb ?_) | (with_reducible refine x_nilP ?_) | (with_reducible refine x_nilPn ?_) | (with_reducible refine x_nilF ?_) | (with_reducible refine x_nilFF ?_) | (with_reducible refine w_eqlL ?_) | (with_reducible refine w_neqL ?_) | (with_reducible refine s_eqlL ?_) | (with_reducible refine ifnt ?_) | (with_reducible refine ifnf ?_) | (with_reducible refine x_eqB ?_) | (with_reducible refine x_neB ?_) | (with_reducible refine x_lssL ?_) | (with_reducible refine x_gtrL ?_) | (with_reducible refine x_geqL ?_) | (with_reducible refine s_neqL ?_) | (with_reducible refine St.load h ?_) | (with_reducible refine St.loadS h ?_) | (with_reducible refine a_fld0 ?_) | (with_reducible refine St.store h fun W h => ?_) | (with_reducible refine St.storeS h fun W h => ?_) | (with_reducible refine St.alloc h fun b W h => ?_) | (with_reducible refine St.allocS h fun b W h => ?_) | (with_reducible refine a_nil ?_) | (with_reducible refine ss_load ?_) | (with_reducible refine ss_loadS ?_) | (with_reducible refine ss_eqb ?_)))
  refine iff' ?_
  (repeat (first | (with_reducible refine ift ?_) | (with_reducible refine iff' ?_) | (with_reducible refine a_lss ?_) | (with_reducible refine a_leq ?_) | (with_reducible refine a_gtr ?_) | (with_reducible refine a_geq ?_) | (with_reducible refine w_eql ?_) | (with_reducible refine w_neq ?_) | (with_reducible refine s_eql ?_) | (with_reducible refine s_neq ?_) | ((with_reducible refine a_add64 ?h0 ?h1 ?_); (case h0 => omega); (case h1 => omega);  skip) | ((with_reducible refine a_sub64 ?h0 ?h1 ?_); (case h0 => omega); (case h1 => omega);  skip) | ((with_reducible refine a_mul64 ?h0 ?h1 ?_); (case h0 => omega); (case h1 => omega);  skip) | (with_reducible refine a_notd ?_) | (with_reducible refine a_not ?_) | (with_reducible refine a_ext0 ?_) | (with_reducible refine a_ext1 ?_) | (with_reducible refine a_ext2 ?_) | (with_reducible refine x_len ?_) | (with_reducible refine x_lens ?_) | (with_reducible refine x_eqb ?_) | (with_reducible refine x_neb ?_) | (with_reducible refine x_nilP ?_) | (with_reducible refine x_nilPn ?_) | (with_reducible refine x_nilF ?_) | (with_reducible refine x_nilFF ?_) | (with_reducible refine w_eqlL ?_) | (with_reducible refine w_neqL ?_) | (with_reducible refine s_eqlL ?_) | (with_reducible refine ifnt ?_) | (with_reducible refine ifnf ?_) | (with_reducible refine x_eqB ?_) | (with_reducible refine x_neB ?_) | (with_reducible refine x_lssL ?_) | (with_reducible refine x_gtrL ?_) | (with_reducible refine x_geqL ?_) | (with_reducible refine s_neqL ?_) | (with_reducible refine St.load h ?_) | (with_reducible refine St.loadS h ?_) | (with_reducible refine a_fld0 ?_) | (with_reducible refine St.store h fun W h => ?_) | (with_reducible refine St.storeS h fun W h => ?_) | (with_reducible refine St.alloc h fun b W h => ?_) | (with_reducible refine St.allocS h fun b W h => ?_) | (with_reducible refine a_nil ?_) | (with_reducible refine ss_load ?_) | (with_reducible refine ss_loadS ?_) | (with_reducible refine ss_eqb ?_)))
  refine iff' ?_
  have za : Mnss a W (.pointer (some ⟨ba, 0, none⟩)) := .inr (h.freeze (v := .pointer (some ⟨ba, 0, none⟩)))
  have zb : Mnss b W (.pointer (some ⟨bb, 0, none⟩)) := .inr (h.freeze (v := .pointer (some ⟨bb, 0, none⟩)))
  have zc : Mnss c W (.pointer (some ⟨bc, 0, none⟩)) := .inr (h.freeze (v := .pointer (some ⟨bc, 0, none⟩)))
  have hl := h.low
  have dab := dff_le a b
  have dbc := dff_le b c
  have dac := dff_le a c
  have rise := dff_rise ha hc
  have two := dff_two ha hb hc
  have f1 : foldD a (dff a b ++ dff b c) = c := by rw [foldD_append, fold_dff ha hb, fold_dff hb hc]
  have f2 : foldD a (dff a c) = c := fold_dff ha hc
  have gone : ∀ d, d ∈ dff a c → d.2.2 = true → d.2.1 = [] := fun d hd hg => dff_gone hd hg
  clear h
  have h := St.start W
  have big : ∀ {r : List Ch}, r.length ≤ 1000 → r.take (1048576 : Int).toNat = r := fun hr => List.take_of_length_le (by show _ ≤ 1048576; omega)
  have fin : ∀ {l : List As} {W' : World}, St W G0 l W' → R (.bool true) W' := fun h => hR _ (Below.next hl h.low)
  refine ofss_spec za zb h (by omega) (by omega) fun g1 b1 b2 W' hI h => ?_
  refine ranged_spec (f := g1) hI h (by omega) fun u1 W' o1 h => ?_
  rw [big (by omega)] at h
  refine ofss_spec zb zc h (by omega) (by omega) fun g2 b3 b4 W' hI h => ?_
  refine ranged_spec (f := g2) hI h (by omega) fun u2 W' o2 h => ?_
  rw [big (by omega)] at h
  refine ofss_spec za zc h (by omega) (by omega) fun g3 b5 b6 W' hI h => ?_
  refine ranged_spec (f := g3) hI h (by omega) fun u3 W' o3 h => ?_
  rw [big (by omega)] at h
  generalize dff a b = x at *
  generalize dff b c = y at *
  generalize dff a c = z at *
  refine h.lit (vs := []) (cs := []) (fun u4 W' o4 h => ?_) (by decide)
  refine St.app (v := u4) h (h.osl (v := u1)) (ccells_one _) (by unfold maxLen; omega) (by omega) fun u5 W' o5 h _ => ?_
  refine St.app (v := u5) h (h.osl (v := u2)) (ccells_one _) (by unfold maxLen; omega) (by omega) fun u6 W' o6 h _ => ?_
  have hs6 : Sl W' 3 u6 (x ++ y).length (ccells (x ++ y)) := by
    have := h.osl (v := u6)
    rw [List.nil_append, ← ccells_append, Nat.zero_add, ← List.length_append] at this
    exact this
  refine fold_spec (za.below h.low) hs6 rfl (by omega) (by rw [List.length_append]; omega) fun c1 W' h' => ?_
  rw [f1] at h'
  replace h := h.frame1 h'
  clear h' hs6
  refine pairs21_spec (.inr (h.freeze (v := c1))) (by omega) fun p1 W' op1 h' => ?_
  replace h := h.frame1 h'
  clear h'
  refine fold_spec (za.below h.low) (h.osl (v := u3)) rfl (by omega) (by omega) fun c2 W' h' => ?_
  rw [f2] at h'
  replace h := h.frame1 h'
  clear h'
  refine pairs21_spec (.inr (h.freeze (v := c2))) (by omega) fun p2 W' op2 h' => ?_
  replace h := h.frame1 h'
  clear h'
  refine prEq_spec (h.osl (v := p1)) rfl (h.osl (v := p2)) rfl (by omega) fun W' m => ?_
  replace h := h.ext m
  rw [decide_eq_true rfl]
  refine a_not (iff' ?_)
  refine x_lenS (h.osl (v := u3)) ?_
  refine x_lenS (h.osl (v := u1)) ?_
  refine x_lenS (h.osl (v := u2)) ?_
  refine a_add64 (by omega) (by omega) ?_
  refine a_gtr (ifd_neg (by omega) ?_)
  have h1 : St W G0 [Ky u3 (Ow 105 3 z.length (ccells z))] W' := h.to
  clear h
  refine lpx (α := Nat) (fun i => [nV .i64 i]) (fun i W' => 1 ≤ i ∧ St W G0 [Ky u3 (Ow 105 3 z.length (ccells z))] W') (fun i => z.length - i) 1 (fun _ => rfl) rfl ⟨Nat.le_refl _, h1⟩ ?_
  clear h1
  rintro next i W' hnext ⟨hi, h⟩
  refine app1 ?_
  refine x_lenS (h.osl (v := u3)) ?_
  refine a_lss (ifd (fun hlt => ?_) fun hlt => ?_)
  · obtain ⟨i, rfl⟩ : ∃ j, i = j + 1 := ⟨i - 1, by omega⟩
    obtain ⟨d, hd⟩ : ∃ d, z[i]? = some d := ⟨_, List.getElem?_eq_getElem (by omega)⟩
    obtain ⟨e, he⟩ : ∃ d, z[i + 1]? = some d := ⟨_, List.getElem?_eq_getElem (by omega)⟩
    refine ⟨fun W2 => W2 = _, rfl, ?_⟩
    replace h := h.drew
    refine x_sfld (h.osl (v := u3)) (fun _ e => by subst e; exact h.osl (v := u3)) (by omega) (by decide) ((ccells_get he (by decide)).trans rfl) ?_
    refine a_sub64 (by omega) (by omega) ?_
    rw [show (((i + 1 : Nat) : Int) - 1) = (i : Int) by omega]
    refine x_sfld (h.osl (v := u3)) (fun _ e => by subst e; exact h.osl (v := u3)) (by omega) (by decide) ((ccells_get hd (by decide)).trans rfl) ?_
    have hr := rise_at rise hd he (by omega)
    have hle : (Op.bytesLess e.1 d.1 || e.1 == d.1) = false := by
      have h1 : OKey.lt e.1 d.1 = false := by
        cases h1 : OKey.lt e.1 d.1
        · rfl
        · have := OKey.tr hr h1
          rw [OKey.irr] at this; cases this
      have h2 : (e.1 == d.1) = false := by
        cases h2 : (e.1 == d.1)
        · rfl
        · rw [eq_of_beq h2, OKey.irr] at hr; cases hr
      show (OKey.lt e.1 d.1 || e.1 == d.1) = false
      rw [h1, h2]; rfl
    refine x_leqL0 ?_
    rw [hle]
    refine iff' ?_
    refine a_add64 (by omega) (by omega) ⟨rfl, ?_⟩
    rw [show (((i + 1 : Nat) : Int) + 1) = ((i + 1 + 1 : Nat) : Int) by push_cast; rfl]
    exact hnext (i + 1 + 1) _ (by omega) ⟨by omega, h⟩
  clear hnext next hlt hi
  refine lpx (α := Nat) (fun i => [nV .i64 i]) (fun i W' => St W G0 [Ky u3 (Ow 105 3 z.length (ccells z))] W') (fun i => z.length - i) 0 (fun _ => rfl) rfl h ?_
  clear h
  rintro next i W' hnext h
  refine app1 ?_
  refine x_lenS (h.osl (v := u3)) ?_
  refine a_lss (ifd (fun hlt => ?_) fun hlt => ?_)
  · obtain ⟨d, hd⟩ : ∃ d, z[i]? = some d := ⟨_, List.getElem?_eq_getElem (by omega)⟩
    refine jni (fun vs W' => vs = [u3, nV .i64 i] ∧ St W G0 [Ky u3 (Ow 105 3 z.length (ccells z))] W') ?_ ?_
    · rintro vs W' _ ⟨rfl, h⟩
      refine app2 ?_
      refine a_add64 (by omega) (by omega) ⟨rfl, ?_⟩
      rw [show ((i : Int) + 1) = ((i + 1 : Nat) : Int) by push_cast; rfl]
      exact hnext (i + 1) _ (by omega) h
    refine x_fld (h.osl (v := u3)) (by omega) (by decide) ((ccells_get hd (by decide)).trans rfl) ?_
    refine ifb (fun hg => ?_) fun hg => ⟨rfl, h⟩
    refine x_fld (h.osl (v := u3)) (by omega) (by decide) ((ccells_get hd (by decide)).trans rfl) ?_
    rw [gone d (List.mem_of_getElem? hd) hg]
    refine w_neqL (ifd_neg (by simp) ⟨rfl, h⟩)
  · refine first21_spec fun W' m => ?_
    exact fin (h.ext m)
end
end Go.Proofs.Ytdjgchofnkancaa
