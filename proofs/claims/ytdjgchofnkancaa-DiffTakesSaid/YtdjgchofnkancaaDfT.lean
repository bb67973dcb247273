/-
  DiffTakes: some of the changes: the walk.
-/
import Derived.Test.YtdjgchofnkancaaDfQ
import Derived.Test.YtdjgchofnkancaaDfN
namespace Go.Proofs.Ytdjgchofnkancaa
open Go Go.Ez Go.RowKit
set_option linter.unusedSimpArgs false
set_option linter.unusedVariables false

section
variable {w : World} {R : Value → World → Prop}
/-- hbllaw21.DiffTakes -/
theorem dtakes_spec {l1 l2 : List (Txt × Txt)} {v1 v2 : Value} {cnt : Int} (hv1 : Sl w 2 v1 l1.length (pcells l1)) (hv2 : Sl w 2 v2 l2.length (pcells l2))
    (h : ∀ w', Below w.heap.size w w' → R (.bool true) w') : CallF Try.prog 10 #[v1, v2, .int .i64 cnt] w R := by
  refine sh10_calls ?_
  unfold sh10
  have hR := h
  have h := St.start w
  refine first21_spec fun W m => ?_
  replace h := h.ext m
  refine a_not (iff' ?_)
  refine few_spec (h.sl0 hv1) rfl fun b W m hb1 => ?_
  replace h := h.ext m
  refine a_not (ifnb (fun _ => first21_spec fun W m => hR W (h.ext m).low) fun e1 => ?_)
  refine few_spec (h.sl0 hv2) rfl fun b' W m hb2 => ?_
  replace h := h.ext m
  refine a_not (ifnb (fun _ => first21_spec fun W m => hR W (h.ext m).low) fun e2 => ?_)
  have hl1 := hb1 e1
  have hl2 := hb2 e2
  clear hb1 hb2
  refine map21_spec (h.sl0 hv1) rfl (by omega) fun va W h' => ?_
  replace h := h.frame1 h'
  clear h'
  refine map21_spec (h.sl0 hv2) rfl (by omega) fun vb W h' => ?_
  replace h := h.frame1 h'
  clear h'
  have hla := fmap_len l1
  have hlb := fmap_len l2
  have ha := fmap_srt l1
  have hb := fmap_srt l2
  generalize fmap l1 = a at *
  generalize fmap l2 = b at *
  obtain ⟨ba, rfl, _⟩ := h.ptrM (v := va)
  obtain ⟨bb, rfl, _⟩ := h.ptrM (v := vb)
  (repeat (first | (with_reducible refine ift ?_) | (with_reducible refine iff' ?_) | (with_reducible refine a_lss ?_) | (with_reducible refine a_leq ?_) | (with_reducible refine a_gtr ?_) | (with_reducible refine a_geq ?_) | (with_reducible refine w_eql ?_) | (with_reducible refine w_neq ?_) | (with_reducible refine s_eql ?_) | (with_reducible refine s_neq ?_) | ((with_reducible refine a_add64 ?h0 ?h1 ?_); (case h0 => omega); (case h1 => omega);  skip) | ((with_reducible refine a_sub64 ?h0 ?h1 ?_); (case h0 => omega); (case h1 => omega);  skip) | ((with_reducible refine a_mul64 ?h0 ?h1 ?_); (case h0 => omega); (case h1 => omega);  skip) | (with_reducible refine a_notd ?_) | (with_reducible refine a_not ?_) | (with_reducible refine a_ext0 ?_) | (with_reducible refine a_ext1 ?_) | (with_reducible refine a_ext2 ?_) | (with_reducible refine x_len ?_) | (with_reducible refine x_lens ?_) | (with_reducible refine x_eqb ?_) | (with_reducible refine x_neb ?_) | (with_reducible refine x_nilP ?_) | (with_reducible refine x_nilPn ?_) | (with_reducible refine x_nilF ?_) | (with_reducible refine x_nilFF ?_) | (with_reducible refine w_eqlL ?_) | (with_reducible refine w_neqL ?_) | (with_reducible refine s_eqlL ?_) | (with_reducible refine ifnt ?_) | (with_reducible refine ifnf ?_) | (with_reducible refine x_eqB ?_) | (with_reducible refine x_neB ?_) | (with_reducible refine x_lssL ?_) | (with_reducible refine x_gtrL ?_) | (with_reducible refine x_geqL ?_) | (with_reducible refine s_neqL ?_) | (with_reducible refine St.load h ?_) | (with_reducible refine St.loadS h ?_) | (with_reducible refine a_fld0 ?_) | (with_reducible refine St.store h fun W h => ?_) | (with_reducible refine St.storeS h fun W h => ?_) | (with_reducible refine St.alloc h fun b W h => ?_) | (with_reducible refine St.allocS h fun b W h => ?_) | (with_reducible refine a_nil ?_) | (with_reducible refine ss_load ?_) | (with_reducible refine ss_loadS ?_) | (with_reducible refine ss_eqb ?_)))
  refine iff' ?_
  (repeat (first | (with_reducible refine ift ?_) | (with_reducible refine iff' ?_) | (with_reducible refine a_lss ?_) | (with_reducible refine a_leq ?_) | (with_reducible refine a_gtr ?_) | (with_reducible refine a_geq ?_) | (with_reducible refine w_eql ?_) | (with_reducible refine w_neq ?_) | (with_reducible refine s_eql ?_) | (with_reducible refine s_neq ?_) | ((with_reducible refine a_add64 ?h0 ?h1 ?_); (case h0 => omega); (case h1 => omega);  skip) | ((with_reducible refine a_sub64 ?h0 ?h1 ?_); (case h0 => omega); (case h1 => omega);  skip) | ((with_reducible refine a_mul64 ?h0 ?h1 ?_); (case h0 => omega); (case h1 => omega);  skip) | (with_reducible refine a_notd ?_) | (with_reducible refine a_not ?_) | (with_reducible refine a_ext0 ?_) | (with_reducible refine a_ext1 ?_) | (with_reducible refine a_ext2 ?_) | (with_reducible refine x_len ?_) | (with_reducible refine x_lens ?_) | (with_reducible refine x_eqb ?_) | (with_reducible refine x_neb ?_) | (with_reducible refine x_nilP ?_) | (with_reducible refine x_nilPn ?_) | (with_reducible refine x_nilF ?_) | (with_reducible refine x_nilFF ?_) | (with_reducible refine w_eqlL ?_) | (with_reducible refine w_neqL ?_) | (with_reducible refine s_eqlL ?_) | (with_reducible refine ifnt ?_) | (with_reducible refine ifnf ?_) | (with_reducible refine x_eqB ?_) | (with_reducible refine x_neB ?_) | (with_reducible refine x_lssL ?_) | (with_reducible refine x_gtrL ?_) | (with_reducible refine x_geqL ?_) | (with_reducible refine s_neqL ?_) | (with_reducible refine St.load h ?_) | (with_reducible refine St.loadS h ?_) | (with_reducible refine a_fld0 ?_) | (with_reducible refine St.store h fun W h => ?_) | (with_reducible refine St.storeS h fun W h => ?_) | (with_reducible refine St.alloc h fun b W h => ?_) | (with_reducible refine St.allocS h fun b W h => ?_) | (with_reducible refine a_nil ?_) | (with_reducible refine ss_load ?_) | (with_reducible refine ss_loadS ?_) | (with_reducible refine ss_eqb ?_)))
  refine iff' ?_
  have za : Mnss a W (.pointer (some ⟨ba, 0, none⟩)) := .inr (h.freeze (v := .pointer (some ⟨ba, 0, none⟩)))
  have zb : Mnss b W (.pointer (some ⟨bb, 0, none⟩)) := .inr (h.freeze (v := .pointer (some ⟨bb, 0, none⟩)))
  have hl := h.low
  have hdl := dff_le a b
  have rise := dff_rise ha hb
  clear h
  have h := St.start W
  have big : ∀ {r : List Ch}, r.length ≤ 1000 → r.take (1048576 : Int).toNat = r := fun hr => List.take_of_length_le (by show _ ≤ 1048576; omega)
  have fin : ∀ {l : List As} {W' : World}, St W G0 l W' → R (.bool true) W' := fun h => hR _ (Below.next hl h.low)
  refine ofss_spec za zb h (by omega) (by omega) fun f b1 b2 W' hI h => ?_
  have hnil := dff_nil ha hb
  have hcount := @countss_spec
  generalize hds : dff a b = ds at *
  refine ranged_spec (f := f) hI h (by omega) fun vc W' oc h => ?_
  rw [big (by omega)] at h
  refine changes_spec (h.osl (v := vc)) rfl (by omega) fun vd W' od h' => ?_
  replace h := h.frame1 h'
  clear h'
  refine ranged_spec (f := f) hI h (by omega) fun ve W' oe h => ?_
  rw [big (by omega)] at h
  refine changes_spec (h.osl (v := ve)) rfl (by omega) fun vf W' of h' => ?_
  replace h := h.frame1 h'
  clear h'
  refine some_spec (f := f) (n := cnt) hI h (by omega) fun vg W' og h => ?_
  refine a_ext0 (a_ext1 ?_)
  refine w_max ?_
  refine x_lenS (h.osl (v := vd)) ?_
  refine w_min ?_
  obtain ⟨c, hc⟩ : ∃ c : Nat, max cnt 0 = c := ⟨(max cnt 0).toNat, by omega⟩
  have hc' : cnt.toNat = c := by omega
  rw [hc'] at h ⊢
  rw [hc, show min (c : Int) ((ds.length : Nat) : Int) = ((min c ds.length : Nat) : Int) by omega]
  refine ⟨fun _ => True, trivial, ?_⟩
  replace h := h.drew
  refine same_spec (h.osl (v := vd)) rfl (h.osl (v := vf)) rfl (by omega) fun W' m => ⟨trivial, ?_⟩
  replace h := h.ext m
  rw [decide_eq_true rfl]
  refine a_not (iff' ?_)
  refine a_sliceH (SlT.el (P := Try.prog) (t := 90)) (h.osl (v := vd)) (by omega) (by omega) fun vs hvs => ?_
  simp only [Int.toNat_natCast] at hvs
  have htl : (ds.take c).length = min c ds.length := List.length_take ..
  have hmin : ds.take (min c ds.length) = ds.take c := by
    rcases Nat.le_total c ds.length with hc | hc
    · rw [Nat.min_eq_left hc]
    · rw [Nat.min_eq_right hc, List.take_length, List.take_of_length_le hc]
  rw [← ccells_take, hmin] at hvs
  refine changes_spec (h.osl (v := vg)) rfl (by omega) fun vh W2 oh h' => ⟨trivial, ?_⟩
  have hvs' := hvs.below h'.low
  replace h := h.frame1 h'
  clear h'
  refine same_spec (h.osl (v := vh)) rfl hvs' htl.symm (by omega) fun W' m => ⟨trivial, ?_⟩
  replace h := h.ext m
  rw [decide_eq_true rfl]
  refine a_not (iff' ?_)
  refine x_lenSs (h.osl (v := vd)) ?_
  refine a_lss ?_
  refine s_neb ?_
  rw [show (decide (c < ds.length) == decide (((min c ds.length : Nat) : Int) < ((ds.length : Nat) : Int))) = true by
    by_cases hcl : c < ds.length
    · rw [decide_eq_true hcl, decide_eq_true (by omega)]; rfl
    · rw [decide_eq_false hcl, decide_eq_false (by omega)]; rfl]
  refine iff' ?_
  refine x_lenSs (h.osl (v := vd)) ?_
  refine hcount za zb h (by omega) (by omega) fun W' h => ⟨trivial, ?_⟩
  rw [hds]
  refine s_neq (ifd_neg (by simp) ?_)
  refine x_lenS (h.osl (v := vd)) ?_
  refine w_eql (ifd (fun h0 => ?_) fun h0 => ?_)
  · refine first21_spec fun W' m => ?_
    replace h := h.ext m
    refine ift ?_
    refine pairs21_spec (za.below h.low) (by omega) fun vp W' op h' => ?_
    replace h := h.frame1 h'
    clear h'
    refine pairs21_spec (zb.below h.low) (by omega) fun vq W' oq h' => ?_
    replace h := h.frame1 h'
    clear h'
    refine prEq_spec (h.osl (v := vp)) rfl (h.osl (v := vq)) rfl (by omega) fun W' m => ?_
    rw [decide_eq_true (hnil (List.eq_nil_of_length_eq_zero (by omega)))]
    exact fin (h.ext m)
  · refine first21_spec fun W' m => ?_
    replace h := h.ext m
    refine ift ?_
    refine x_lenS (h.osl (v := vd)) ?_
    refine a_sub64 (by omega) (by omega) ?_
    obtain ⟨j, hj⟩ : ∃ j : Nat, ds.length = j + 1 := ⟨ds.length - 1, by omega⟩
    rw [show ((ds.length : Nat) : Int) - 1 = (j : Int) by omega]
    obtain ⟨d, hd⟩ : ∃ d, ds[j]? = some d := ⟨_, List.getElem?_eq_getElem (by omega)⟩
    refine x_fld (h.osl (v := vd)) (by omega) (by decide) ((ccells_get hd (by decide)).trans rfl) ?_
    refine after_spec (f := f) (s := d.1) hI h fun f' b3 b4 W' hI' h => ?_
    rw [aft_drop rise hd, ← hj, List.drop_length] at hI'
    refine ranged_spec (f := f') hI' h (Nat.zero_le _) fun vp W' op h => ?_
    refine x_lenS (h.osl (v := vp)) ?_
    refine w_eql ?_
    rw [decide_eq_true (by simp)]
    exact fin h
end
end Go.Proofs.Ytdjgchofnkancaa
