/-
  DiffReads: any two maps, held against the document's: the walk.
-/
import Derived.Test.YtdjgchofnkancaaDfD
import Derived.Test.YtdjgchofnkancaaDfN
namespace Go.Proofs.Ytdjgchofnkancaa
open Go Go.Ez Go.RowKit
set_option linter.unusedSimpArgs false
set_option linter.unusedVariables false

theorem aft_step {s : Txt} {ds : List Ch} {i : Nat} {d : Ch} (h : ds[i]? = some d) : aftD s (ds.take (i + 1)) = if OKey.lt s d.1 then aftD s (ds.take i) ++ [d] else aftD s (ds.take i) := by
  unfold aftD
  rw [List.take_add_one, h, List.filterMap_append]
  show _ ++ List.filterMap _ [d] = _
  split
  · rename_i hl; simp [hl]
  · rename_i hl; simp [hl]
theorem aft_len (s : Txt) (ds : List Ch) : (aftD s ds).length ≤ ds.length := List.length_filterMap_le ..

section
variable {w : World} {R : Value → World → Prop}
/-- hbllaw21.DiffReads -/
theorem dreads_spec {l1 l2 l3 : List (Txt × Txt)} {v1 v2 v3 : Value} {s : Txt} {cnt : Int} (hv1 : Sl w 2 v1 l1.length (pcells l1)) (hv2 : Sl w 2 v2 l2.length (pcells l2)) (hv3 : Sl w 2 v3 l3.length (pcells l3))
    (h : ∀ w', Below w.heap.size w w' → R (.bool true) w') : CallF Try.prog 12 #[v1, v2, v3, strV s, .int .i64 cnt] w R := by
  refine sh12_calls ?_
  unfold sh12
  have hR := h
  have h := St.start w
  refine first21_spec fun W m => ?_
  replace h := h.ext m
  refine a_not (iff' ?_)
  refine few_spec (h.sl0 hv1) rfl fun b W m hb1 => ?_
  replace h := h.ext m
  refine a_not (ifnb (fun _ => first21_spec fun W m => hR W (h.ext m).low) fun e1 => ?_)
  refine few_spec (h.sl0 hv2) rfl fun b' W m hb2 => ?_
  replace h := h.ext m
  refine a_not (ifnb (fun _ => first21_spec fun W m => hR W (h.ext m).low) fun e2 => ?_)
  refine few_spec (h.sl0 hv3) rfl fun b' W m hb3 => ?_
  replace h := h.ext m
  refine a_not (ifnb (fun _ => first21_spec fun W m => hR W (h.ext m).low) fun e3 => ?_)
  have hl1 := hb1 e1
  have hl2 := hb2 e2
  have hl3 := hb3 e3
  clear hb1 hb2 hb3
  refine x_len ?_
  refine a_gtr (ifd (fun _ => first21_spec fun W m => hR W (h.ext m).low) fun _ => ?_)
  refine map21_spec (h.sl0 hv1) rfl (by omega) fun va W h' => ?_
  replace h := h.frame1 h'
  clear h'
  refine map21_spec (h.sl0 hv2) rfl (by omega) fun vb W h' => ?_
  replace h := h.frame1 h'
  clear h'
  refine map21_spec (h.sl0 hv3) rfl (by omega) fun vc W h' => ?_
  replace h := h.frame1 h'
  clear h'
  have hla := fmap_len l1
  have hlb := fmap_len l2
  have hlc := fmap_len l3
  have ha := fmap_srt l1
  have hb := fmap_srt l2
  have hc := fmap_srt l3
  obtain ⟨ba, rfl, _⟩ := h.ptrM (v := va)
  obtain ⟨bb, rfl, _⟩ := h.ptrM (v := vb)
  obtain ⟨bc, rfl, _⟩ := h.ptrM (v := vc)
  (repeat (first | (with_reducible refine ift ?_) | (with_reducible refine iff' ?_) | (with_reducible refine a_lss ?_) | (with_reducible refine a_leq ?_) | (with_reducible refine a_gtr ?_) | (with_reducible refine a_geq ?_) | (with_reducible refine w_eql ?_) | (with_reducible refine w_neq ?_) | (with_reducible refine s_eql ?_) | (with_reducible refine s_neq ?_) | ((with_reducible refine a_add64 ?h0 ?h1 ?_); (case h0 => omega); (case h1 => omega);  skip) | ((with_reducible refine a_sub64 ?h0 ?h1 ?_); (case h0 => omega); (case h1 => omega);  skip) | ((with_reducible refine a_mul64 ?h0 ?h1 ?_); (case h0 => omega); (case h1 => omega);  skip) | (with_reducible refine a_notd ?_) | (with_reducible refine a_not ?_) | (with_reducible refine a_ext0 ?_) | (with_reducible refine a_ext1 ?_) | (with_reducible refine a_ext2 ?_) | (with_reducible refine x_len ?_) | (with_reducible refine x_lens ?_) | (with_reducible refine x_eqb ?_) | (with_reducible refine x_neb ?_) | (with_reducible refine x_nilP ?_) | (with_reducible refine x_nilPn ?_) | (with_reducible refine x_nilF ?_) | (with_reducible refine x_nilFF ?_) | (with_reducible refine w_eqlL ?_) | (with_reducible refine w_neqL ?_) | (with_reducible refine s_eqlL ?_) | (with_reducible refine ifnt ?_) | (with_reducible refine ifnf ?_) | (with_reducible refine x_eqB ?_) | (with_reducible refine x_neB ?_) | (with_reducible refine x_lssL ?_) | (with_reducible refine x_gtrL ?_) | (with_reducible refine x_geqL ?_) | (with_reducible refine s_neqL ?_) | (with_reducible refine St.load h ?_) | (with_reducible refine St.loadS h ?_) | (with_reducible refine a_fld0 ?_) | (with_reducible refine St.store h fun W h => ?_) | (with_reducible refine St.storeS h fun W h => ?_) | (with_reducible refine St.alloc h fun b W h => ?_) | (with_reducible refine St.allocS h fun b W h => ?_) | (with_reducible refine a_nil ?_) | (with_reducible refine ss_load ?_) | (with_reducible refine ss_loadS ?_) | (with_reducible refine ss_eqb ?_)))
  refine iff' ?_
  (repeat (first | (with_reducible refine ift ?_) | (with_reducible refine iff' ?_) | (with_reducible refine a_lss ?_) | (with_reducible refine a_leq ?_) | (with_reducible refine a_gtr ?_) | (with_reducible refine a_geq ?_) | (with_reducible refine w_eql ?_) | (with_reducible refine w_neq ?_) | (with_reducible refine s_eql ?_) | (with_reducible refine s_neq ?_) | ((with_reducible refine a_add64 ?h0 ?h1 ?_); (case h0 => omega); (case h1 => omega);  skip) | ((with_reducible refine a_sub64 ?h0 ?h1 ?_); (case h0 => omega); (case h1 => omega);  skip) | ((with_reducible refine a_mul64 ?h0 ?h1 ?_); (case h0 => omega); (case h1 => omega);  skip) | (with_reducible refine a_notd ?_) | (with_reducible refine a_not ?_) | (with_reducible refine a_ext0 ?_) | (with_reducible refine a_ext1 ?_) | (with_reducible refine a_ext2 ?_) | (with_reducible refine x_len ?_) | (with_reducible refine x_lens ?_) | (with_reducible refine x_eqb ?_) | (with_reducible refine x_neb ?_) | (with_reducible refine x_nilP ?_) | (with_reducible refine x_nilPn ?_) | (with_reducible refine x_nilF ?_) | (with_reducible refine x_nilFF ?_) | (with_reducible refine w_eqlL ?_) | (with_reducible refine w_neqL ?_) | (with_reducible refine s_eqlL ?_) | (with_reducible refine ifnt ?_) | (with_reducible refine ifnf ?_) | (with_reducible refine x_eqB ?_) | (with_reducible refine x_neB ?_) | (with_reducible refine x_lssL ?_) | (with_reducible refine x_gtrL ?_) | (with_reducible refine x_geqL ?_) | (with_reducible refine s_neqL ?_) | (with_reducible refine St.load h ?_) | (with_reducible refine St.loadS h ?_) | (with_reducible refine a_fld0 ?_) | (with_reducible refine St.store h fun W h => ?_) | (with_reducible refine St.storeS h fun W h => ?_) | (with_reducible refine St.alloc h fun b W h => ?_) | (with_reducible refine St.allocS h fun b W h => ?_) | (with_reducible refine a_nil ?_) | (with_reducible refine ss_load ?_) | (with_reducible refine ss_loadS ?_) | (with_reducible refine ss_eqb ?_)))
  refine iff' ?_
  (repeat (first | (with_reducible refine ift ?_) | (with_reducible refine iff' ?_) | (with_reducible refine a_lss ?_) | (with_reducible refine a_leq ?_) | (with_reducible refine a_gtr ?_) | (with_reducible refine a_geq ?_) | (with_reducible refine w_eql ?_) | (with_reducible refine w_neq ?_) | (with_reducible refine s_eql ?_) | (with_reducible refine s_neq ?_) | ((with_reducible refine a_add64 ?h0 ?h1 ?_); (case h0 => omega); (case h1 => omega);  skip) | ((with_reducible refine a_sub64 ?h0 ?h1 ?_); (case h0 => omega); (case h1 => omega);  skip) | ((with_reducible refine a_mul64 ?h0 ?h1 ?_); (case h0 => omega); (case h1 => omega);  skip) | (with_reducible refine a_notd ?_) | (with_reducible refine a_not ?_) | (with_reducible refine a_ext0 ?_) | (with_reducible refine a_ext1 ?_) | (with_reducible refine a_ext2 ?_) | (with_reducible refine x_len ?_) | (with_reducible refine x_lens ?_) | (with_reducible refine x_eqb ?_) | (with_reducible refine x_neb ?_) | (with_reducible refine x_nilP ?_) | (with_reducible refine x_nilPn ?_) | (with_reducible refine x_nilF ?_) | (with_reducible refine x_nilFF ?_) | (with_reducible refine w_eqlL ?_) | (with_reducible refine w_neqL ?_) | (with_reducible refine s_eqlL ?_) | (with_reducible refine ifnt ?_) | (with_reducible refine ifnf ?_) | (with_reducible refine x_eqB ?_) | (with_reducible refine x_neB ?_) | (with_reducible refine x_lssL ?_) | (with_reducible refine x_gtrL ?_) | (with_reducible refine x_geqL ?_) | (with_reducible refine s_neqL ?_) | (with_reducible refine St.load h ?_) | (with_reducible refine St.loadS h ?_) | (with_reducible refine a_fld0 ?_) | (with_reducible refine St.store h fun W h => ?_) | (with_reducible refine St.storeS h fun W h => ?_) | (with_reducible refine St.alloc h fun b W h => ?_) | (with_reducible refine St.allocS h fun b W h => ?_) | (with_reducible refine a_nil ?_) | (with_reducible refine ss_load ?_) | (with_reducible refine ss_loadS ?_) | (with_reducible refine ss_eqb ?_)))
  refine iff' ?_
  have za : Mnss (fmap l1) W (.pointer (some ⟨ba, 0, none⟩)) := .inr (h.freeze (v := .pointer (some ⟨ba, 0, none⟩)))
  have zb : Mnss (fmap l2) W (.pointer (some ⟨bb, 0, none⟩)) := .inr (h.freeze (v := .pointer (some ⟨bb, 0, none⟩)))
  have zc : Mnss (fmap l3) W (.pointer (some ⟨bc, 0, none⟩)) := .inr (h.freeze (v := .pointer (some ⟨bc, 0, none⟩)))
  have hl := h.low
  replace hv1 := h.sl0 hv1
  replace hv2 := h.sl0 hv2
  replace hv3 := h.sl0 hv3
  clear h
  have h := St.start W
  have pl1 : ∀ {W' : World} {l : List As} {K : Value → World → Prop}, St W G0 l W' → (∀ v' W2, Cel1 v' → St W G0 (Ky v' (Ow 136 2 (fmap l1).length (pcells (fmap l1))) :: l) W2 → K v' W2) → CallF Try.prog 65 #[v1] W' K := fun h hK => plain_spec (h.sl0 hv1) rfl (by omega) fun v' W2 o h' => hK v' W2 o (h.frame1 h')
  have pl2 : ∀ {W' : World} {l : List As} {K : Value → World → Prop}, St W G0 l W' → (∀ v' W2, Cel1 v' → St W G0 (Ky v' (Ow 136 2 (fmap l2).length (pcells (fmap l2))) :: l) W2 → K v' W2) → CallF Try.prog 65 #[v2] W' K := fun h hK => plain_spec (h.sl0 hv2) rfl (by omega) fun v' W2 o h' => hK v' W2 o (h.frame1 h')
  have pl3 : ∀ {W' : World} {l : List As} {K : Value → World → Prop}, St W G0 l W' → (∀ v' W2, Cel1 v' → St W G0 (Ky v' (Ow 136 2 (fmap l3).length (pcells (fmap l3))) :: l) W2 → K v' W2) → CallF Try.prog 65 #[v3] W' K := fun h hK => plain_spec (h.sl0 hv3) rfl (by omega) fun v' W2 o h' => hK v' W2 o (h.frame1 h')
  generalize fmap l1 = a at *
  generalize fmap l2 = b at *
  generalize fmap l3 = c at *
  have hdl := dff_le a b
  have big : ∀ {r : List Ch}, r.length ≤ 1000 → r.take (1048576 : Int).toNat = r := fun hr => List.take_of_length_le (by show _ ≤ 1048576; omega)
  have fin : ∀ {l : List As} {W' : World}, St W G0 l W' → R (.bool true) W' := fun h => hR _ (Below.next hl h.low)
  refine pl1 h fun p1 W' op1 h => ?_
  refine pl2 h fun p2 W' op2 h => ?_
  refine rdiff_spec (h.osl (v := p1)) rfl (h.osl (v := p2)) rfl (by omega) (by omega) fun vd W' od h' => ?_
  rw [rdf_dff ha hb] at h'
  replace h := h.frame1 h'
  clear h'
  have hcount := @countss_spec
  have hof := @ofss_spec
  generalize hds : dff a b = ds at *
  have h1 : St W G0 [Ky (.slice none 0 0 : Value) (Ow 102 3 (aftD s (ds.take 0)).length (ccells (aftD s (ds.take 0)))), Ky vd (Ow 102 3 ds.length (ccells ds))] W' := by
    have h2 : St W G0 (Ky (.slice none 0 0 : Value) (Ow 102 3 0 []) :: _) W' := h.nilOw
    have h3 : St W G0 [Ky (.slice none 0 0 : Value) (Ow 102 3 0 []), Ky vd (Ow 102 3 ds.length (ccells ds))] W' := h2.to
    exact h3
  clear h
  refine lpx (α := Value × Nat) (fun x => [x.1, nV .i64 x.2]) (fun x W' => x.2 ≤ ds.length ∧ St W G0 [Ky x.1 (Ow 102 3 (aftD s (ds.take x.2)).length (ccells (aftD s (ds.take x.2)))), Ky vd (Ow 102 3 ds.length (ccells ds))] W') (fun x => ds.length - x.2) (.slice none 0 0, 0) (fun _ => rfl) rfl ⟨Nat.zero_le _, h1⟩ ?_
  clear h1
  rintro next ⟨t, i⟩ W' hnext ⟨hi, h⟩
  simp only at hi h hnext ⊢
  refine app2 ?_
  have hal := aft_len s (ds.take i)
  rw [List.length_take] at hal
  refine x_lenS (h.osl (v := vd)) ?_
  refine a_lss (ifd (fun hlt => ?_) fun hlt => ?_)
  · obtain ⟨d, hd⟩ : ∃ d, ds[i]? = some d := ⟨_, List.getElem?_eq_getElem (by omega)⟩
    have hst := aft_step (s := s) hd
    refine jni (fun vs W' => ∃ t', vs = [v1, v2, v3, strV s, .int .i64 cnt, .pointer (some ⟨ba, 0, none⟩), .pointer (some ⟨bb, 0, none⟩), .pointer (some ⟨bc, 0, none⟩), vd, t', nV .i64 i] ∧ St W G0 [Ky t' (Ow 102 3 (aftD s (ds.take (i + 1))).length (ccells (aftD s (ds.take (i + 1))))), Ky vd (Ow 102 3 ds.length (ccells ds))] W') ?_ ?_
    · clear h
      rintro vs W' _ ⟨t', rfl, h⟩
      refine (show appN 11 _ [_, _, _, _, _, _, _, _, _, _, _] _ from ?_)
      refine a_add64 (by omega) (by omega) ⟨rfl, rfl, rfl, rfl, rfl, rfl, rfl, rfl, rfl, ?_⟩
      rw [show ((i : Int) + 1) = ((i + 1 : Nat) : Int) by push_cast; rfl]
      exact hnext (t', i + 1) W' (by simp only; omega) ⟨by simp only; omega, h⟩
    refine x_fld (h.osl (v := vd)) (by omega) (by decide) ((ccells_get hd (by decide)).trans rfl) ?_
    refine x_gtrL (ifb (fun hg => ?_) fun hg => ?_)
    · have hg' : OKey.lt s d.1 = true := hg
      rw [if_pos hg'] at hst
      refine x_idx (h.osl (v := vd)) (by omega) fun bb oo hcc => ?_
      refine x_lds (cs := Ch.cells d) rfl (fun j u hu => ?_) ?_
      · have hj : j < 3 := by have := (List.getElem?_eq_some_iff.1 hu).1; exact this
        exact hcc j u hj ((ccells_get hd hj).trans hu)
      refine h.lit (vs := [.agg (Ch.cells d).toArray]) (cs := Ch.cells d) (fun u2 W o2 h => ?_) (by decide)
      refine St.app (v := t) h (h.osl (v := u2)) (by simp [Ch.cells, Value.oneCell']) (by unfold maxLen; omega) (by omega) fun v' W o' h _ => ?_
      refine ⟨v', rfl, ?_⟩
      rw [hst, ccells_append, List.length_append, show ccells [d] = Ch.cells d by simp [ccells]]
      exact h.to
    · have hg' : ¬ OKey.lt s d.1 = true := fun h => by
        have h1 : OKey.lt s d.1 = false := hg
        rw [h1] at h; cases h
      rw [if_neg hg'] at hst
      exact ⟨t, rfl, by rw [hst]; exact h⟩
  have hil : i = ds.length := by omega
  subst hil
  rw [List.take_length] at h hal
  clear hnext next hlt hi
  refine w_max ?_
  refine x_lenS (h.osl (v := vd)) ?_
  refine w_min ?_
  obtain ⟨q, hq⟩ : ∃ q : Nat, max cnt 0 = q := ⟨(max cnt 0).toNat, by omega⟩
  have hq' : cnt.toNat = q := by omega
  rw [hq, show min (q : Int) ((ds.length : Nat) : Int) = ((min q ds.length : Nat) : Int) by omega]
  refine hof za zb h (by omega) (by omega) fun f b1 b2 W' hI h => ?_
  rw [hds] at hI
  refine ranged_spec (f := f) hI h (by omega) fun ve W' oe h => ?_
  rw [big (by omega)] at h
  refine some_spec (f := f) (n := cnt) hI h (by omega) fun vg W' og h => ?_
  rw [hq'] at h ⊢
  refine a_ext0 (a_ext1 ?_)
  have htl : (ds.take q).length = min q ds.length := List.length_take ..
  have hmin : ds.take (min q ds.length) = ds.take q := by
    rcases Nat.le_total q ds.length with hc | hc
    · rw [Nat.min_eq_left hc]
    · rw [Nat.min_eq_right hc, List.take_length, List.take_of_length_le hc]
  refine ⟨fun _ => True, trivial, ?_⟩
  replace h := h.drew
  refine changes_spec (h.osl (v := ve)) rfl (by omega) fun u1 W' o1 h' => ⟨trivial, ?_⟩
  replace h := h.frame1 h'
  clear h'
  refine same_spec (h.osl (v := u1)) rfl (h.osl (v := vd)) rfl (by omega) fun W' m => ⟨trivial, ?_⟩
  replace h := h.ext m
  rw [decide_eq_true rfl]
  refine a_not (iff' ?_)
  have cutD : ∀ {l R : List As} {W' : World} [Has l vd (Ow 102 3 ds.length (ccells ds)) R], St W G0 l W' → Sl W' 3 (cutV vd (min q ds.length)) (ds.take q).length (ccells (ds.take q)) := fun {l R W'} _ h => by
    have h1 := (h.cutOw (v := vd) (k := min q ds.length) (by omega)).osl (v := cutV vd (min q ds.length))
    rw [← ccells_take, hmin] at h1
    rw [htl]
    exact h1
  refine x_cutOw (v := vd) h (by omega) ?_
  refine changes_spec (h.osl (v := vg)) rfl (by omega) fun u2 W2 o2 h' => ⟨trivial, ?_⟩
  replace h := h.frame1 h'
  clear h'
  refine same_spec (h.osl (v := u2)) rfl (cutD h) rfl (by omega) fun W' m => ⟨trivial, ?_⟩
  replace h := h.ext m
  rw [decide_eq_true rfl]
  refine a_not (iff' ?_)
  refine x_lenSs (h.osl (v := vd)) ?_
  refine a_gtr ?_
  refine s_neb ?_
  rw [show (decide (q < ds.length) == decide (((min q ds.length : Nat) : Int) < ((ds.length : Nat) : Int))) = true by
    by_cases hcl : q < ds.length
    · rw [decide_eq_true hcl, decide_eq_true (by omega)]; rfl
    · rw [decide_eq_false hcl, decide_eq_false (by omega)]; rfl]
  refine iff' ?_
  refine x_cutOw (v := vd) h (by omega) ?_
  refine ranged_spec (f := f) (n := cnt) hI h (by omega) fun vr W2 or_ h => ⟨trivial, ?_⟩
  rw [hq'] at h
  refine changes_spec (h.osl (v := vr)) rfl (by omega) fun u3 W2 o3 h' => ⟨trivial, ?_⟩
  replace h := h.frame1 h'
  clear h'
  refine same_spec (h.osl (v := u3)) rfl (cutD h) rfl (by omega) fun W' m => ⟨trivial, ?_⟩
  replace h := h.ext m
  rw [decide_eq_true rfl]
  refine a_not (iff' ?_)
  refine x_lenSs (h.osl (v := vd)) ?_
  refine hcount za zb h (by omega) (by omega) fun W' h => ⟨trivial, ?_⟩
  rw [hds]
  refine s_neq (ifd_neg (by simp) ?_)
  refine after_spec (f := f) (s := s) hI h fun f' b3 b4 W' hI' h => ⟨trivial, ?_⟩
  refine ranged_spec (f := f') hI' h (by omega) fun vx W' ox h => ⟨trivial, ?_⟩
  rw [big (by omega)] at h
  refine changes_spec (h.osl (v := vx)) rfl (by omega) fun u4 W2 o4 h' => ⟨trivial, ?_⟩
  replace h := h.frame1 h'
  clear h'
  refine same_spec (h.osl (v := u4)) rfl (h.osl (v := t)) rfl (by omega) fun W' m => ⟨trivial, ?_⟩
  replace h := h.ext m
  rw [decide_eq_true rfl]
  refine a_not (iff' ?_)
  refine fold_spec (zc.below h.low) (h.osl (v := ve)) rfl (by omega) (by omega) fun c1 W' h' => ?_
  replace h := h.frame1 h'
  clear h'
  have hfl := foldD_len ds c
  refine first21_spec fun W' m => ?_
  replace h := h.ext m
  refine ift ?_
  refine pairs21_spec (.inr (h.freeze (v := c1))) (by omega) fun p3 W' op3 h' => ?_
  replace h := h.frame1 h'
  clear h'
  refine pl3 h fun p4 W' op4 h => ?_
  refine rfold_spec (h.osl (v := p4)) rfl (h.osl (v := vd)) rfl hc (by omega) (by omega) fun p5 W' op5 h' => ?_
  replace h := h.frame1 h'
  clear h'
  refine prEq_spec (h.osl (v := p3)) rfl (h.osl (v := p5)) rfl (by omega) fun W' m => ?_
  replace h := h.ext m
  rw [decide_eq_true rfl]
  refine ift ?_
  refine pairs21_spec (zc.below h.low) (by omega) fun p6 W' op6 h' => ?_
  replace h := h.frame1 h'
  clear h'
  refine pl3 h fun p7 W' op7 h => ?_
  refine prEq_spec (h.osl (v := p6)) rfl (h.osl (v := p7)) rfl (by omega) fun W' m => ?_
  replace h := h.ext m
  rw [decide_eq_true rfl]
  refine ift ?_
  refine pairs21_spec (za.below h.low) (by omega) fun p8 W' op8 h' => ?_
  replace h := h.frame1 h'
  clear h'
  refine pl1 h fun p9 W' op9 h => ?_
  refine prEq_spec (h.osl (v := p8)) rfl (h.osl (v := p9)) rfl (by omega) fun W' m => ?_
  replace h := h.ext m
  rw [decide_eq_true rfl]
  refine ift ?_
  refine pairs21_spec (zb.below h.low) (by omega) fun p10 W' op10 h' => ?_
  replace h := h.frame1 h'
  clear h'
  refine pl2 h fun p11 W' op11 h => ?_
  refine prEq_spec (h.osl (v := p10)) rfl (h.osl (v := p11)) rfl (by omega) fun W' m => ?_
  rw [decide_eq_true rfl]
  exact fin (h.ext m)
end
end Go.Proofs.Ytdjgchofnkancaa
