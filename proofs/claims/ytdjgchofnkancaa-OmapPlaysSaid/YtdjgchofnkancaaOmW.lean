/-
  A MAP and the document's map are alike: all, falling, in a range.
-/
import Derived.Test.YtdjgchofnkancaaOmV
import Derived.Test.YtdjgchofnkancaaOmBk
import Derived.Test.YtdjgchofnkancaaOmN
import Derived.Test.YtdjgchofnkancaaOmDis
namespace Go.Proofs.Ytdjgchofnkancaa
open Go Go.Ez Go.RowKit
set_option linter.unusedSimpArgs false
set_option linter.unusedVariables false

section
variable {w0 W : World} {G : Nat → Prop} {l R R1 : List As} {m : List (Int × Txt)} {mv xv : Value} {RR : Value → World → Prop}

theorem alike_spec [i : Has l mv (Mpis m) R1] [j : Has R1 xv (Mx m) R] (h : St w0 G l W) {lo hi : Int} (hl : m.length ≤ 1000)
    (k : ∀ W', St w0 G (Ky mv (Mpis m) :: Ky xv (Mx m) :: R) W' → RR (.bool true) W') :
    CallF Try.prog 51 #[mv, xv, .int .i64 lo, .int .i64 hi] W RR := by
  refine sh51_calls ?_
  unfold sh51
  replace h : St w0 G (Ky mv (Mpis m) :: Ky xv (Mx m) :: R) W := by
    obtain ⟨F, hF, hG⟩ := h.own
    exact { h with own := ⟨F, sepL_mono j.to (i.to F W hF), hG⟩ }
  have hpl : (partM lo hi m).length ≤ m.length := List.length_filter_le _ _
  have big : ∀ {α : Type} (r : List α), r.length ≤ 1000 → r.take (1048576 : Int).toNat = r := fun r hr => List.take_of_length_le (by show _ ≤ 1048576; omega)
  refine allis_spec (v := mv) h (by omega) fun f1 b1 W hI h => ?_
  refine pairs_spec (f := f1) hI h (by omega) fun va vb W oa ob h => ?_
  rw [big m hl] at h
  replace h := h.untwo (k := f1)
  (repeat (first | (with_reducible refine ift ?_) | (with_reducible refine iff' ?_) | (with_reducible refine a_lss ?_) | (with_reducible refine a_leq ?_) | (with_reducible refine a_gtr ?_) | (with_reducible refine a_geq ?_) | (with_reducible refine w_eql ?_) | (with_reducible refine w_neq ?_) | (with_reducible refine s_eql ?_) | (with_reducible refine s_neq ?_) | ((with_reducible refine a_add64 ?h0 ?h1 ?_); (case h0 => omega); (case h1 => omega);  skip) | ((with_reducible refine a_sub64 ?h0 ?h1 ?_); (case h0 => omega); (case h1 => omega);  skip) | ((with_reducible refine a_mul64 ?h0 ?h1 ?_); (case h0 => omega); (case h1 => omega);  skip) | (with_reducible refine a_notd ?_) | (with_reducible refine a_not ?_) | (with_reducible refine a_ext0 ?_) | (with_reducible refine a_ext1 ?_) | (with_reducible refine a_ext2 ?_) | (with_reducible refine x_len ?_) | (with_reducible refine x_lens ?_) | (with_reducible refine x_eqb ?_) | (with_reducible refine x_neb ?_) | (with_reducible refine x_nilP ?_) | (with_reducible refine x_nilPn ?_) | (with_reducible refine x_nilF ?_) | (with_reducible refine x_nilFF ?_) | (with_reducible refine w_eqlL ?_) | (with_reducible refine w_neqL ?_) | (with_reducible refine s_eqlL ?_) | (with_reducible refine ifnt ?_) | (with_reducible refine ifnf ?_) | (with_reducible refine x_eqB ?_) | (with_reducible refine x_neB ?_) | (with_reducible refine x_lssL ?_) | (with_reducible refine x_gtrL ?_) | (with_reducible refine x_geqL ?_) | (with_reducible refine s_neqL ?_) | (with_reducible refine St.load h ?_) | (with_reducible refine St.loadS h ?_) | (with_reducible refine a_fld0 ?_) | (with_reducible refine St.store h fun W h => ?_) | (with_reducible refine St.storeS h fun W h => ?_) | (with_reducible refine St.alloc h fun b W h => ?_) | (with_reducible refine St.allocS h fun b W h => ?_) | (with_reducible refine a_nil ?_) | (with_reducible refine ss_load ?_) | (with_reducible refine ss_loadS ?_) | (with_reducible refine ss_eqb ?_)))
  refine from_spec (v := xv) h (by omega) fun vc vd W oc od h => ?_
  rw [told_all] at h
  (repeat (first | (with_reducible refine ift ?_) | (with_reducible refine iff' ?_) | (with_reducible refine a_lss ?_) | (with_reducible refine a_leq ?_) | (with_reducible refine a_gtr ?_) | (with_reducible refine a_geq ?_) | (with_reducible refine w_eql ?_) | (with_reducible refine w_neq ?_) | (with_reducible refine s_eql ?_) | (with_reducible refine s_neq ?_) | ((with_reducible refine a_add64 ?h0 ?h1 ?_); (case h0 => omega); (case h1 => omega);  skip) | ((with_reducible refine a_sub64 ?h0 ?h1 ?_); (case h0 => omega); (case h1 => omega);  skip) | ((with_reducible refine a_mul64 ?h0 ?h1 ?_); (case h0 => omega); (case h1 => omega);  skip) | (with_reducible refine a_notd ?_) | (with_reducible refine a_not ?_) | (with_reducible refine a_ext0 ?_) | (with_reducible refine a_ext1 ?_) | (with_reducible refine a_ext2 ?_) | (with_reducible refine x_len ?_) | (with_reducible refine x_lens ?_) | (with_reducible refine x_eqb ?_) | (with_reducible refine x_neb ?_) | (with_reducible refine x_nilP ?_) | (with_reducible refine x_nilPn ?_) | (with_reducible refine x_nilF ?_) | (with_reducible refine x_nilFF ?_) | (with_reducible refine w_eqlL ?_) | (with_reducible refine w_neqL ?_) | (with_reducible refine s_eqlL ?_) | (with_reducible refine ifnt ?_) | (with_reducible refine ifnf ?_) | (with_reducible refine x_eqB ?_) | (with_reducible refine x_neB ?_) | (with_reducible refine x_lssL ?_) | (with_reducible refine x_gtrL ?_) | (with_reducible refine x_geqL ?_) | (with_reducible refine s_neqL ?_) | (with_reducible refine St.load h ?_) | (with_reducible refine St.loadS h ?_) | (with_reducible refine a_fld0 ?_) | (with_reducible refine St.store h fun W h => ?_) | (with_reducible refine St.storeS h fun W h => ?_) | (with_reducible refine St.alloc h fun b W h => ?_) | (with_reducible refine St.allocS h fun b W h => ?_) | (with_reducible refine a_nil ?_) | (with_reducible refine ss_load ?_) | (with_reducible refine ss_loadS ?_) | (with_reducible refine ss_eqb ?_)))
  refine range_spec (v := mv) h (by omega) fun f2 b2 b3 b4 W hI h => ?_
  refine pairs_spec (f := f2) hI h (by omega) fun ve vf W oe of h => ?_
  rw [big (partM lo hi m) (by omega)] at h
  replace h := (St.open4 (h.find (k := f2) (X := ItR b2 b3 b4 mv lo hi m))).2
  (repeat (first | (with_reducible refine ift ?_) | (with_reducible refine iff' ?_) | (with_reducible refine a_lss ?_) | (with_reducible refine a_leq ?_) | (with_reducible refine a_gtr ?_) | (with_reducible refine a_geq ?_) | (with_reducible refine w_eql ?_) | (with_reducible refine w_neq ?_) | (with_reducible refine s_eql ?_) | (with_reducible refine s_neq ?_) | ((with_reducible refine a_add64 ?h0 ?h1 ?_); (case h0 => omega); (case h1 => omega);  skip) | ((with_reducible refine a_sub64 ?h0 ?h1 ?_); (case h0 => omega); (case h1 => omega);  skip) | ((with_reducible refine a_mul64 ?h0 ?h1 ?_); (case h0 => omega); (case h1 => omega);  skip) | (with_reducible refine a_notd ?_) | (with_reducible refine a_not ?_) | (with_reducible refine a_ext0 ?_) | (with_reducible refine a_ext1 ?_) | (with_reducible refine a_ext2 ?_) | (with_reducible refine x_len ?_) | (with_reducible refine x_lens ?_) | (with_reducible refine x_eqb ?_) | (with_reducible refine x_neb ?_) | (with_reducible refine x_nilP ?_) | (with_reducible refine x_nilPn ?_) | (with_reducible refine x_nilF ?_) | (with_reducible refine x_nilFF ?_) | (with_reducible refine w_eqlL ?_) | (with_reducible refine w_neqL ?_) | (with_reducible refine s_eqlL ?_) | (with_reducible refine ifnt ?_) | (with_reducible refine ifnf ?_) | (with_reducible refine x_eqB ?_) | (with_reducible refine x_neB ?_) | (with_reducible refine x_lssL ?_) | (with_reducible refine x_gtrL ?_) | (with_reducible refine x_geqL ?_) | (with_reducible refine s_neqL ?_) | (with_reducible refine St.load h ?_) | (with_reducible refine St.loadS h ?_) | (with_reducible refine a_fld0 ?_) | (with_reducible refine St.store h fun W h => ?_) | (with_reducible refine St.storeS h fun W h => ?_) | (with_reducible refine St.alloc h fun b W h => ?_) | (with_reducible refine St.allocS h fun b W h => ?_) | (with_reducible refine a_nil ?_) | (with_reducible refine ss_load ?_) | (with_reducible refine ss_loadS ?_) | (with_reducible refine ss_eqb ?_)))
  refine from_spec (v := xv) h (by omega) fun vg vh W og oh h => ?_
  rw [told_part] at h
  (repeat (first | (with_reducible refine ift ?_) | (with_reducible refine iff' ?_) | (with_reducible refine a_lss ?_) | (with_reducible refine a_leq ?_) | (with_reducible refine a_gtr ?_) | (with_reducible refine a_geq ?_) | (with_reducible refine w_eql ?_) | (with_reducible refine w_neq ?_) | (with_reducible refine s_eql ?_) | (with_reducible refine s_neq ?_) | ((with_reducible refine a_add64 ?h0 ?h1 ?_); (case h0 => omega); (case h1 => omega);  skip) | ((with_reducible refine a_sub64 ?h0 ?h1 ?_); (case h0 => omega); (case h1 => omega);  skip) | ((with_reducible refine a_mul64 ?h0 ?h1 ?_); (case h0 => omega); (case h1 => omega);  skip) | (with_reducible refine a_notd ?_) | (with_reducible refine a_not ?_) | (with_reducible refine a_ext0 ?_) | (with_reducible refine a_ext1 ?_) | (with_reducible refine a_ext2 ?_) | (with_reducible refine x_len ?_) | (with_reducible refine x_lens ?_) | (with_reducible refine x_eqb ?_) | (with_reducible refine x_neb ?_) | (with_reducible refine x_nilP ?_) | (with_reducible refine x_nilPn ?_) | (with_reducible refine x_nilF ?_) | (with_reducible refine x_nilFF ?_) | (with_reducible refine w_eqlL ?_) | (with_reducible refine w_neqL ?_) | (with_reducible refine s_eqlL ?_) | (with_reducible refine ifnt ?_) | (with_reducible refine ifnf ?_) | (with_reducible refine x_eqB ?_) | (with_reducible refine x_neB ?_) | (with_reducible refine x_lssL ?_) | (with_reducible refine x_gtrL ?_) | (with_reducible refine x_geqL ?_) | (with_reducible refine s_neqL ?_) | (with_reducible refine St.load h ?_) | (with_reducible refine St.loadS h ?_) | (with_reducible refine a_fld0 ?_) | (with_reducible refine St.store h fun W h => ?_) | (with_reducible refine St.storeS h fun W h => ?_) | (with_reducible refine St.alloc h fun b W h => ?_) | (with_reducible refine St.allocS h fun b W h => ?_) | (with_reducible refine a_nil ?_) | (with_reducible refine ss_load ?_) | (with_reducible refine ss_loadS ?_) | (with_reducible refine ss_eqb ?_)))
  refine back_spec (v := mv) h (by omega) fun f3 b5 W hI h => ?_
  refine pairs_spec (f := f3) hI h (by rw [List.length_reverse]; omega) fun vp vq W op oq h => ?_
  rw [big m.reverse (by rw [List.length_reverse]; omega)] at h
  replace h := h.untwo (k := f3)
  (repeat (first | (with_reducible refine ift ?_) | (with_reducible refine iff' ?_) | (with_reducible refine a_lss ?_) | (with_reducible refine a_leq ?_) | (with_reducible refine a_gtr ?_) | (with_reducible refine a_geq ?_) | (with_reducible refine w_eql ?_) | (with_reducible refine w_neq ?_) | (with_reducible refine s_eql ?_) | (with_reducible refine s_neq ?_) | ((with_reducible refine a_add64 ?h0 ?h1 ?_); (case h0 => omega); (case h1 => omega);  skip) | ((with_reducible refine a_sub64 ?h0 ?h1 ?_); (case h0 => omega); (case h1 => omega);  skip) | ((with_reducible refine a_mul64 ?h0 ?h1 ?_); (case h0 => omega); (case h1 => omega);  skip) | (with_reducible refine a_notd ?_) | (with_reducible refine a_not ?_) | (with_reducible refine a_ext0 ?_) | (with_reducible refine a_ext1 ?_) | (with_reducible refine a_ext2 ?_) | (with_reducible refine x_len ?_) | (with_reducible refine x_lens ?_) | (with_reducible refine x_eqb ?_) | (with_reducible refine x_neb ?_) | (with_reducible refine x_nilP ?_) | (with_reducible refine x_nilPn ?_) | (with_reducible refine x_nilF ?_) | (with_reducible refine x_nilFF ?_) | (with_reducible refine w_eqlL ?_) | (with_reducible refine w_neqL ?_) | (with_reducible refine s_eqlL ?_) | (with_reducible refine ifnt ?_) | (with_reducible refine ifnf ?_) | (with_reducible refine x_eqB ?_) | (with_reducible refine x_neB ?_) | (with_reducible refine x_lssL ?_) | (with_reducible refine x_gtrL ?_) | (with_reducible refine x_geqL ?_) | (with_reducible refine s_neqL ?_) | (with_reducible refine St.load h ?_) | (with_reducible refine St.loadS h ?_) | (with_reducible refine a_fld0 ?_) | (with_reducible refine St.store h fun W h => ?_) | (with_reducible refine St.storeS h fun W h => ?_) | (with_reducible refine St.alloc h fun b W h => ?_) | (with_reducible refine St.allocS h fun b W h => ?_) | (with_reducible refine a_nil ?_) | (with_reducible refine ss_load ?_) | (with_reducible refine ss_loadS ?_) | (with_reducible refine ss_eqb ?_)))
  refine x_lenS (h.osl (v := vp)) ?_
  refine x_lenS (h.osl (v := vc)) ?_
  refine w_neq (ifd_neg (by simp) ?_)
  refine x_lenS (h.osl (v := vq)) ?_
  refine x_lenS (h.osl (v := vc)) ?_
  refine w_neq (ifd_neg (by simp) ?_)
  refine lenis_spec (v := mv) h ?_
  refine x_lenS (h.osl (v := vc)) ?_
  refine w_neq (ifd_neg (by simp) ?_)
  rw [List.length_reverse] at h
  have h1 : St w0 G (Ky va (Ow 3 1 m.length ((m.map Prod.fst).map Enc.enc)) :: Ky vb (Ow 9 1 m.length ((m.map Prod.snd).map Enc.enc)) :: Ky vc (Ow 3 1 m.length ((m.map Prod.fst).map Enc.enc)) :: Ky vd (Ow 9 1 m.length ((m.map Prod.snd).map Enc.enc)) ::
      Ky ve (Ow 3 1 (partM lo hi m).length (((partM lo hi m).map Prod.fst).map Enc.enc)) :: Ky vf (Ow 9 1 (partM lo hi m).length (((partM lo hi m).map Prod.snd).map Enc.enc)) :: Ky vg (Ow 3 1 (partM lo hi m).length (((partM lo hi m).map Prod.fst).map Enc.enc)) :: Ky vh (Ow 9 1 (partM lo hi m).length (((partM lo hi m).map Prod.snd).map Enc.enc)) ::
      Ky vp (Ow 3 1 m.length ((m.reverse.map Prod.fst).map Enc.enc)) :: Ky vq (Ow 9 1 m.length ((m.reverse.map Prod.snd).map Enc.enc)) :: Ky mv (Mpis m) :: Ky xv (Mx m) :: R) W := h.to
  clear h
  refine lpx (α := Nat) (fun i => [nV .i64 i]) (fun i W => i ≤ m.length ∧ St w0 G (Ky va (Ow 3 1 m.length ((m.map Prod.fst).map Enc.enc)) :: Ky vb (Ow 9 1 m.length ((m.map Prod.snd).map Enc.enc)) :: Ky vc (Ow 3 1 m.length ((m.map Prod.fst).map Enc.enc)) :: Ky vd (Ow 9 1 m.length ((m.map Prod.snd).map Enc.enc)) ::
      Ky ve (Ow 3 1 (partM lo hi m).length (((partM lo hi m).map Prod.fst).map Enc.enc)) :: Ky vf (Ow 9 1 (partM lo hi m).length (((partM lo hi m).map Prod.snd).map Enc.enc)) :: Ky vg (Ow 3 1 (partM lo hi m).length (((partM lo hi m).map Prod.fst).map Enc.enc)) :: Ky vh (Ow 9 1 (partM lo hi m).length (((partM lo hi m).map Prod.snd).map Enc.enc)) ::
      Ky vp (Ow 3 1 m.length ((m.reverse.map Prod.fst).map Enc.enc)) :: Ky vq (Ow 9 1 m.length ((m.reverse.map Prod.snd).map Enc.enc)) :: Ky mv (Mpis m) :: Ky xv (Mx m) :: R) W) (fun i => m.length - i) 0 (fun _ => rfl) rfl ⟨Nat.zero_le _, h1⟩ ?_
  rintro next i W hnext ⟨hi', h⟩
  refine app1 ?_
  refine x_lenS (h.osl (v := vc)) ?_
  refine a_lss (ifd (fun hc => ?_) fun hc => ?_)
  · have hil : i < m.length := by omega
    obtain ⟨p, hp⟩ : ∃ p, m[i]? = some p := ⟨_, List.getElem?_eq_getElem hil⟩
    have hr : m.reverse[m.length - 1 - i]? = some p := by
      rw [List.getElem?_reverse (by omega), ← hp]
      congr 1; omega
    refine ⟨fun W' => W' = W.drew, rfl, ?_⟩
    replace h := h.drew
    refine x_lenSs (h.osl (v := vc)) ?_
    refine a_sub64 (by omega) (by omega) ?_
    refine a_sub64 (by omega) (by omega) ?_
    rw [show ((m.length : Int) - 1 - (i : Int)) = ((m.length - 1 - i : Nat) : Int) by omega]
    refine x_sat (h.osl (v := vp)) (fun _ e => by subst e; exact h.osl (v := vp)) (by rw [List.getElem?_map, List.getElem?_map, hr]; rfl) ?_
    refine x_sat (h.osl (v := vc)) (fun _ e => by subst e; exact h.osl (v := vc)) (by rw [List.getElem?_map, List.getElem?_map, hp]; rfl) ?_
    refine s_neq (ifd_neg (by simp) ?_)
    refine x_lenSs (h.osl (v := vc)) ?_
    refine a_sub64 (by omega) (by omega) ?_
    refine a_sub64 (by omega) (by omega) ?_
    rw [show ((m.length : Int) - 1 - (i : Int)) = ((m.length - 1 - i : Nat) : Int) by omega]
    refine x_sat (h.osl (v := vq)) (fun _ e => by subst e; exact h.osl (v := vq)) (by rw [List.getElem?_map, List.getElem?_map, hr]; rfl) ?_
    refine x_sat (h.osl (v := vd)) (fun _ e => by subst e; exact h.osl (v := vd)) (by rw [List.getElem?_map, List.getElem?_map, hp]; rfl) ?_
    refine s_neqL (ifd_neg (by simp) ?_)
    refine a_add64 (by omega) (by omega) ⟨rfl, rfl, rfl, rfl, rfl, rfl, rfl, rfl, rfl, rfl, ?_⟩
    rw [show ((i : Int) + 1) = ((i + 1 : Nat) : Int) by push_cast; rfl]
    exact hnext (i + 1) _ (by omega) ⟨by omega, h⟩
  · have hk : ∀ (r : List (Int × Txt)), r.length ≤ 1000 → (r.map Prod.fst).length ≤ 100000000000 ∧ (r.map Prod.snd).length ≤ 100000000000 := fun r hr => by rw [List.length_map, List.length_map]; omega
    refine eqis_spec (xs := m.map Prod.fst) (ys := m.map Prod.fst) (h.osl (v := va)) (h.osl (v := vc)) (hk m hl).1 fun W m1 => ?_
    replace h := h.ext m1
    rw [decide_eq_true rfl]
    (repeat (first | (with_reducible refine ift ?_) | (with_reducible refine iff' ?_) | (with_reducible refine a_lss ?_) | (with_reducible refine a_leq ?_) | (with_reducible refine a_gtr ?_) | (with_reducible refine a_geq ?_) | (with_reducible refine w_eql ?_) | (with_reducible refine w_neq ?_) | (with_reducible refine s_eql ?_) | (with_reducible refine s_neq ?_) | ((with_reducible refine a_add64 ?h0 ?h1 ?_); (case h0 => omega); (case h1 => omega);  skip) | ((with_reducible refine a_sub64 ?h0 ?h1 ?_); (case h0 => omega); (case h1 => omega);  skip) | ((with_reducible refine a_mul64 ?h0 ?h1 ?_); (case h0 => omega); (case h1 => omega);  skip) | (with_reducible refine a_notd ?_) | (with_reducible refine a_not ?_) | (with_reducible refine a_ext0 ?_) | (with_reducible refine a_ext1 ?_) | (with_reducible refine a_ext2 ?_) | (with_reducible refine x_len ?_) | (with_reducible refine x_lens ?_) | (with_reducible refine x_eqb ?_) | (with_reducible refine x_neb ?_) | (with_reducible refine x_nilP ?_) | (with_reducible refine x_nilPn ?_) | (with_reducible refine x_nilF ?_) | (with_reducible refine x_nilFF ?_) | (with_reducible refine w_eqlL ?_) | (with_reducible refine w_neqL ?_) | (with_reducible refine s_eqlL ?_) | (with_reducible refine ifnt ?_) | (with_reducible refine ifnf ?_) | (with_reducible refine x_eqB ?_) | (with_reducible refine x_neB ?_) | (with_reducible refine x_lssL ?_) | (with_reducible refine x_gtrL ?_) | (with_reducible refine x_geqL ?_) | (with_reducible refine s_neqL ?_) | (with_reducible refine St.load h ?_) | (with_reducible refine St.loadS h ?_) | (with_reducible refine a_fld0 ?_) | (with_reducible refine St.store h fun W h => ?_) | (with_reducible refine St.storeS h fun W h => ?_) | (with_reducible refine St.alloc h fun b W h => ?_) | (with_reducible refine St.allocS h fun b W h => ?_) | (with_reducible refine a_nil ?_) | (with_reducible refine ss_load ?_) | (with_reducible refine ss_loadS ?_) | (with_reducible refine ss_eqb ?_)))
    refine eqsi_spec (xs := m.map Prod.snd) (ys := m.map Prod.snd) (h.osl (v := vb)) (h.osl (v := vd)) (hk m hl).2 fun W m1 => ?_
    replace h := h.ext m1
    rw [decide_eq_true rfl]
    (repeat (first | (with_reducible refine ift ?_) | (with_reducible refine iff' ?_) | (with_reducible refine a_lss ?_) | (with_reducible refine a_leq ?_) | (with_reducible refine a_gtr ?_) | (with_reducible refine a_geq ?_) | (with_reducible refine w_eql ?_) | (with_reducible refine w_neq ?_) | (with_reducible refine s_eql ?_) | (with_reducible refine s_neq ?_) | ((with_reducible refine a_add64 ?h0 ?h1 ?_); (case h0 => omega); (case h1 => omega);  skip) | ((with_reducible refine a_sub64 ?h0 ?h1 ?_); (case h0 => omega); (case h1 => omega);  skip) | ((with_reducible refine a_mul64 ?h0 ?h1 ?_); (case h0 => omega); (case h1 => omega);  skip) | (with_reducible refine a_notd ?_) | (with_reducible refine a_not ?_) | (with_reducible refine a_ext0 ?_) | (with_reducible refine a_ext1 ?_) | (with_reducible refine a_ext2 ?_) | (with_reducible refine x_len ?_) | (with_reducible refine x_lens ?_) | (with_reducible refine x_eqb ?_) | (with_reducible refine x_neb ?_) | (with_reducible refine x_nilP ?_) | (with_reducible refine x_nilPn ?_) | (with_reducible refine x_nilF ?_) | (with_reducible refine x_nilFF ?_) | (with_reducible refine w_eqlL ?_) | (with_reducible refine w_neqL ?_) | (with_reducible refine s_eqlL ?_) | (with_reducible refine ifnt ?_) | (with_reducible refine ifnf ?_) | (with_reducible refine x_eqB ?_) | (with_reducible refine x_neB ?_) | (with_reducible refine x_lssL ?_) | (with_reducible refine x_gtrL ?_) | (with_reducible refine x_geqL ?_) | (with_reducible refine s_neqL ?_) | (with_reducible refine St.load h ?_) | (with_reducible refine St.loadS h ?_) | (with_reducible refine a_fld0 ?_) | (with_reducible refine St.store h fun W h => ?_) | (with_reducible refine St.storeS h fun W h => ?_) | (with_reducible refine St.alloc h fun b W h => ?_) | (with_reducible refine St.allocS h fun b W h => ?_) | (with_reducible refine a_nil ?_) | (with_reducible refine ss_load ?_) | (with_reducible refine ss_loadS ?_) | (with_reducible refine ss_eqb ?_)))
    refine eqis_spec (xs := (partM lo hi m).map Prod.fst) (ys := (partM lo hi m).map Prod.fst) (h.osl (v := ve)) (h.osl (v := vg)) (hk _ (by omega)).1 fun W m1 => ?_
    replace h := h.ext m1
    rw [decide_eq_true rfl]
    (repeat (first | (with_reducible refine ift ?_) | (with_reducible refine iff' ?_) | (with_reducible refine a_lss ?_) | (with_reducible refine a_leq ?_) | (with_reducible refine a_gtr ?_) | (with_reducible refine a_geq ?_) | (with_reducible refine w_eql ?_) | (with_reducible refine w_neq ?_) | (with_reducible refine s_eql ?_) | (with_reducible refine s_neq ?_) | ((with_reducible refine a_add64 ?h0 ?h1 ?_); (case h0 => omega); (case h1 => omega);  skip) | ((with_reducible refine a_sub64 ?h0 ?h1 ?_); (case h0 => omega); (case h1 => omega);  skip) | ((with_reducible refine a_mul64 ?h0 ?h1 ?_); (case h0 => omega); (case h1 => omega);  skip) | (with_reducible refine a_notd ?_) | (with_reducible refine a_not ?_) | (with_reducible refine a_ext0 ?_) | (with_reducible refine a_ext1 ?_) | (with_reducible refine a_ext2 ?_) | (with_reducible refine x_len ?_) | (with_reducible refine x_lens ?_) | (with_reducible refine x_eqb ?_) | (with_reducible refine x_neb ?_) | (with_reducible refine x_nilP ?_) | (with_reducible refine x_nilPn ?_) | (with_reducible refine x_nilF ?_) | (with_reducible refine x_nilFF ?_) | (with_reducible refine w_eqlL ?_) | (with_reducible refine w_neqL ?_) | (with_reducible refine s_eqlL ?_) | (with_reducible refine ifnt ?_) | (with_reducible refine ifnf ?_) | (with_reducible refine x_eqB ?_) | (with_reducible refine x_neB ?_) | (with_reducible refine x_lssL ?_) | (with_reducible refine x_gtrL ?_) | (with_reducible refine x_geqL ?_) | (with_reducible refine s_neqL ?_) | (with_reducible refine St.load h ?_) | (with_reducible refine St.loadS h ?_) | (with_reducible refine a_fld0 ?_) | (with_reducible refine St.store h fun W h => ?_) | (with_reducible refine St.storeS h fun W h => ?_) | (with_reducible refine St.alloc h fun b W h => ?_) | (with_reducible refine St.allocS h fun b W h => ?_) | (with_reducible refine a_nil ?_) | (with_reducible refine ss_load ?_) | (with_reducible refine ss_loadS ?_) | (with_reducible refine ss_eqb ?_)))
    refine eqsi_spec (xs := (partM lo hi m).map Prod.snd) (ys := (partM lo hi m).map Prod.snd) (h.osl (v := vf)) (h.osl (v := vh)) (hk _ (by omega)).2 fun W m1 => ?_
    replace h := h.ext m1
    rw [decide_eq_true rfl]
    exact k W h.to
end

/-- hbllaw2.OmapPlays -/
theorem plays_spec {l : List Call} {v : Value} {n : Nat} {w : World} {R : Value → World → Prop} (hv : Sl w 4 v n (callsC l)) (hn : n = l.length) (hbig : l.length ≤ 9223372036854775807)
    (h : ∀ w', Below w.heap.size w w' → R (.bool true) w') : CallF Try.prog 9 #[v] w R := by
  refine sh9_calls ?_
  unfold sh9
  subst hn
  have hR := h
  have h := St.start w
  refine first2_spec fun W m => ?_
  replace h := h.ext m
  (repeat (first | (with_reducible refine ift ?_) | (with_reducible refine iff' ?_) | (with_reducible refine a_lss ?_) | (with_reducible refine a_leq ?_) | (with_reducible refine a_gtr ?_) | (with_reducible refine a_geq ?_) | (with_reducible refine w_eql ?_) | (with_reducible refine w_neq ?_) | (with_reducible refine s_eql ?_) | (with_reducible refine s_neq ?_) | ((with_reducible refine a_add64 ?h0 ?h1 ?_); (case h0 => omega); (case h1 => omega);  skip) | ((with_reducible refine a_sub64 ?h0 ?h1 ?_); (case h0 => omega); (case h1 => omega);  skip) | ((with_reducible refine a_mul64 ?h0 ?h1 ?_); (case h0 => omega); (case h1 => omega);  skip) | (with_reducible refine a_notd ?_) | (with_reducible refine a_not ?_) | (with_reducible refine a_ext0 ?_) | (with_reducible refine a_ext1 ?_) | (with_reducible refine a_ext2 ?_) | (with_reducible refine x_len ?_) | (with_reducible refine x_lens ?_) | (with_reducible refine x_eqb ?_) | (with_reducible refine x_neb ?_) | (with_reducible refine x_nilP ?_) | (with_reducible refine x_nilPn ?_) | (with_reducible refine x_nilF ?_) | (with_reducible refine x_nilFF ?_) | (with_reducible refine w_eqlL ?_) | (with_reducible refine w_neqL ?_) | (with_reducible refine s_eqlL ?_) | (with_reducible refine ifnt ?_) | (with_reducible refine ifnf ?_) | (with_reducible refine x_eqB ?_) | (with_reducible refine x_neB ?_) | (with_reducible refine x_lssL ?_) | (with_reducible refine x_gtrL ?_) | (with_reducible refine x_geqL ?_) | (with_reducible refine s_neqL ?_) | (with_reducible refine St.load h ?_) | (with_reducible refine St.loadS h ?_) | (with_reducible refine a_fld0 ?_) | (with_reducible refine St.store h fun W h => ?_) | (with_reducible refine St.storeS h fun W h => ?_) | (with_reducible refine St.alloc h fun b W h => ?_) | (with_reducible refine St.allocS h fun b W h => ?_) | (with_reducible refine a_nil ?_) | (with_reducible refine ss_load ?_) | (with_reducible refine ss_loadS ?_) | (with_reducible refine ss_eqb ?_)))
  refine newis_spec h fun mv W h => ?_
  refine x_bld (cells := #[.slice none 0 0]) rfl ?_
  refine St.boxS (cs := [.slice none 0 0]) h fun bx W h => ?_
  replace h : St w G0 (Ky (.pointer (some ⟨bx, 0, none⟩) : Value) (Mx []) :: Ky mv (Mpis []) :: []) W := (h.nilOw (e := 80) (sz := 2)).shutM (b := bx) (sl := .slice none 0 0) (m := []) List.Pairwise.nil rfl rfl
  obtain ⟨b, rfl, _⟩ := h.ptrM (v := mv)
  (repeat (first | (with_reducible refine ift ?_) | (with_reducible refine iff' ?_) | (with_reducible refine a_lss ?_) | (with_reducible refine a_leq ?_) | (with_reducible refine a_gtr ?_) | (with_reducible refine a_geq ?_) | (with_reducible refine w_eql ?_) | (with_reducible refine w_neq ?_) | (with_reducible refine s_eql ?_) | (with_reducible refine s_neq ?_) | ((with_reducible refine a_add64 ?h0 ?h1 ?_); (case h0 => omega); (case h1 => omega);  skip) | ((with_reducible refine a_sub64 ?h0 ?h1 ?_); (case h0 => omega); (case h1 => omega);  skip) | ((with_reducible refine a_mul64 ?h0 ?h1 ?_); (case h0 => omega); (case h1 => omega);  skip) | (with_reducible refine a_notd ?_) | (with_reducible refine a_not ?_) | (with_reducible refine a_ext0 ?_) | (with_reducible refine a_ext1 ?_) | (with_reducible refine a_ext2 ?_) | (with_reducible refine x_len ?_) | (with_reducible refine x_lens ?_) | (with_reducible refine x_eqb ?_) | (with_reducible refine x_neb ?_) | (with_reducible refine x_nilP ?_) | (with_reducible refine x_nilPn ?_) | (with_reducible refine x_nilF ?_) | (with_reducible refine x_nilFF ?_) | (with_reducible refine w_eqlL ?_) | (with_reducible refine w_neqL ?_) | (with_reducible refine s_eqlL ?_) | (with_reducible refine ifnt ?_) | (with_reducible refine ifnf ?_) | (with_reducible refine x_eqB ?_) | (with_reducible refine x_neB ?_) | (with_reducible refine x_lssL ?_) | (with_reducible refine x_gtrL ?_) | (with_reducible refine x_geqL ?_) | (with_reducible refine s_neqL ?_) | (with_reducible refine St.load h ?_) | (with_reducible refine St.loadS h ?_) | (with_reducible refine a_fld0 ?_) | (with_reducible refine St.store h fun W h => ?_) | (with_reducible refine St.storeS h fun W h => ?_) | (with_reducible refine St.alloc h fun b W h => ?_) | (with_reducible refine St.allocS h fun b W h => ?_) | (with_reducible refine a_nil ?_) | (with_reducible refine ss_load ?_) | (with_reducible refine ss_loadS ?_) | (with_reducible refine ss_eqb ?_)))
  refine iff' ?_
  refine x_lenS hv ?_
  refine a_gtr (ifd (fun hc => ?_) fun hc => ?_)
  · (repeat (first | (with_reducible refine ift ?_) | (with_reducible refine iff' ?_) | (with_reducible refine a_lss ?_) | (with_reducible refine a_leq ?_) | (with_reducible refine a_gtr ?_) | (with_reducible refine a_geq ?_) | (with_reducible refine w_eql ?_) | (with_reducible refine w_neq ?_) | (with_reducible refine s_eql ?_) | (with_reducible refine s_neq ?_) | ((with_reducible refine a_add64 ?h0 ?h1 ?_); (case h0 => omega); (case h1 => omega);  skip) | ((with_reducible refine a_sub64 ?h0 ?h1 ?_); (case h0 => omega); (case h1 => omega);  skip) | ((with_reducible refine a_mul64 ?h0 ?h1 ?_); (case h0 => omega); (case h1 => omega);  skip) | (with_reducible refine a_notd ?_) | (with_reducible refine a_not ?_) | (with_reducible refine a_ext0 ?_) | (with_reducible refine a_ext1 ?_) | (with_reducible refine a_ext2 ?_) | (with_reducible refine x_len ?_) | (with_reducible refine x_lens ?_) | (with_reducible refine x_eqb ?_) | (with_reducible refine x_neb ?_) | (with_reducible refine x_nilP ?_) | (with_reducible refine x_nilPn ?_) | (with_reducible refine x_nilF ?_) | (with_reducible refine x_nilFF ?_) | (with_reducible refine w_eqlL ?_) | (with_reducible refine w_neqL ?_) | (with_reducible refine s_eqlL ?_) | (with_reducible refine ifnt ?_) | (with_reducible refine ifnf ?_) | (with_reducible refine x_eqB ?_) | (with_reducible refine x_neB ?_) | (with_reducible refine x_lssL ?_) | (with_reducible refine x_gtrL ?_) | (with_reducible refine x_geqL ?_) | (with_reducible refine s_neqL ?_) | (with_reducible refine St.load h ?_) | (with_reducible refine St.loadS h ?_) | (with_reducible refine a_fld0 ?_) | (with_reducible refine St.store h fun W h => ?_) | (with_reducible refine St.storeS h fun W h => ?_) | (with_reducible refine St.alloc h fun b W h => ?_) | (with_reducible refine St.allocS h fun b W h => ?_) | (with_reducible refine a_nil ?_) | (with_reducible refine ss_load ?_) | (with_reducible refine ss_loadS ?_) | (with_reducible refine ss_eqb ?_)))
    refine ift ?_
    exact first2_spec fun W m => hR W (h.ext m).low
  have hl : l.length ≤ 300 := by omega
  refine lpx (α := Nat × Nat) (fun x => [.pointer (some ⟨x.2, 0, none⟩), nV .i64 x.1]) (fun x W => x.1 ≤ l.length ∧ ∃ mm, mm.length ≤ x.1 ∧ St w G0 [Ky (.pointer (some ⟨x.2, 0, none⟩) : Value) (Mpis mm), Ky (.pointer (some ⟨bx, 0, none⟩) : Value) (Mx mm)] W) (fun x => l.length - x.1) (0, b) (fun _ => rfl) rfl ⟨Nat.zero_le _, [], Nat.le_refl _, h.to⟩ ?_
  clear h
  rintro next ⟨i, b⟩ W hnext ⟨hi, mm, hmm, h⟩
  simp only at hi hmm h
  refine app2 ?_
  refine x_lenS hv ?_
  refine a_lss (ifd (fun hc => ?_) fun hc => ?_)
  · obtain ⟨o, ho⟩ : ∃ o, l[i]? = some o := ⟨_, List.getElem?_eq_getElem (by omega)⟩
    refine x_idx (h.sl0 hv) (by omega) fun bb oo hcc => ?_
    refine x_lds (cs := o.cells) rfl (fun j u hu => ?_) ?_
    · have hj : j < 4 := by have := (List.getElem?_eq_some_iff.1 hu).1; exact this
      exact hcc j u hj ((callsC_get ho hj).trans hu)
    refine h.allocS fun ob W h => ?_
    refine h.storeS (cs' := [.int .i64 o.kind, .int .i64 o.k, .int .i64 o.hi, strV o.v]) fun W h => ?_
    refine a_fld0 (h.load ?_)
    refine jni (fun vs W => ∃ b' mm', vs = [v, .pointer (some ⟨b', 0, none⟩), .pointer (some ⟨bx, 0, none⟩), nV .i64 i, .pointer (some ⟨ob, 0, none⟩), .bool true] ∧ mm'.length ≤ i + 1 ∧
        St w G0 [Ky ob (Ob (.cells [(.int .i64 o.kind : Value), .int .i64 o.k, .int .i64 o.hi, strV o.v].toArray 45 (0, 0))), Ky (.pointer (some ⟨b', 0, none⟩) : Value) (Mpis mm'), Ky (.pointer (some ⟨bx, 0, none⟩) : Value) (Mx mm')] W) ?_ ?_
    · rintro vs W _ ⟨b', mm', rfl, hmm', h⟩
      refine app6 ?_
      (repeat (first | (with_reducible refine ift ?_) | (with_reducible refine iff' ?_) | (with_reducible refine a_lss ?_) | (with_reducible refine a_leq ?_) | (with_reducible refine a_gtr ?_) | (with_reducible refine a_geq ?_) | (with_reducible refine w_eql ?_) | (with_reducible refine w_neq ?_) | (with_reducible refine s_eql ?_) | (with_reducible refine s_neq ?_) | ((with_reducible refine a_add64 ?h0 ?h1 ?_); (case h0 => omega); (case h1 => omega);  skip) | ((with_reducible refine a_sub64 ?h0 ?h1 ?_); (case h0 => omega); (case h1 => omega);  skip) | ((with_reducible refine a_mul64 ?h0 ?h1 ?_); (case h0 => omega); (case h1 => omega);  skip) | (with_reducible refine a_notd ?_) | (with_reducible refine a_not ?_) | (with_reducible refine a_ext0 ?_) | (with_reducible refine a_ext1 ?_) | (with_reducible refine a_ext2 ?_) | (with_reducible refine x_len ?_) | (with_reducible refine x_lens ?_) | (with_reducible refine x_eqb ?_) | (with_reducible refine x_neb ?_) | (with_reducible refine x_nilP ?_) | (with_reducible refine x_nilPn ?_) | (with_reducible refine x_nilF ?_) | (with_reducible refine x_nilFF ?_) | (with_reducible refine w_eqlL ?_) | (with_reducible refine w_neqL ?_) | (with_reducible refine s_eqlL ?_) | (with_reducible refine ifnt ?_) | (with_reducible refine ifnf ?_) | (with_reducible refine x_eqB ?_) | (with_reducible refine x_neB ?_) | (with_reducible refine x_lssL ?_) | (with_reducible refine x_gtrL ?_) | (with_reducible refine x_geqL ?_) | (with_reducible refine s_neqL ?_) | (with_reducible refine St.load h ?_) | (with_reducible refine St.loadS h ?_) | (with_reducible refine a_fld0 ?_) | (with_reducible refine St.store h fun W h => ?_) | (with_reducible refine St.storeS h fun W h => ?_) | (with_reducible refine St.alloc h fun b W h => ?_) | (with_reducible refine St.allocS h fun b W h => ?_) | (with_reducible refine a_nil ?_) | (with_reducible refine ss_load ?_) | (with_reducible refine ss_loadS ?_) | (with_reducible refine ss_eqb ?_)))
      refine alike_spec (mv := .pointer (some ⟨b', 0, none⟩)) (xv := .pointer (some ⟨bx, 0, none⟩)) (m := mm') h (by omega) fun W h => ?_
      (repeat (first | (with_reducible refine ift ?_) | (with_reducible refine iff' ?_) | (with_reducible refine a_lss ?_) | (with_reducible refine a_leq ?_) | (with_reducible refine a_gtr ?_) | (with_reducible refine a_geq ?_) | (with_reducible refine w_eql ?_) | (with_reducible refine w_neq ?_) | (with_reducible refine s_eql ?_) | (with_reducible refine s_neq ?_) | ((with_reducible refine a_add64 ?h0 ?h1 ?_); (case h0 => omega); (case h1 => omega);  skip) | ((with_reducible refine a_sub64 ?h0 ?h1 ?_); (case h0 => omega); (case h1 => omega);  skip) | ((with_reducible refine a_mul64 ?h0 ?h1 ?_); (case h0 => omega); (case h1 => omega);  skip) | (with_reducible refine a_notd ?_) | (with_reducible refine a_not ?_) | (with_reducible refine a_ext0 ?_) | (with_reducible refine a_ext1 ?_) | (with_reducible refine a_ext2 ?_) | (with_reducible refine x_len ?_) | (with_reducible refine x_lens ?_) | (with_reducible refine x_eqb ?_) | (with_reducible refine x_neb ?_) | (with_reducible refine x_nilP ?_) | (with_reducible refine x_nilPn ?_) | (with_reducible refine x_nilF ?_) | (with_reducible refine x_nilFF ?_) | (with_reducible refine w_eqlL ?_) | (with_reducible refine w_neqL ?_) | (with_reducible refine s_eqlL ?_) | (with_reducible refine ifnt ?_) | (with_reducible refine ifnf ?_) | (with_reducible refine x_eqB ?_) | (with_reducible refine x_neB ?_) | (with_reducible refine x_lssL ?_) | (with_reducible refine x_gtrL ?_) | (with_reducible refine x_geqL ?_) | (with_reducible refine s_neqL ?_) | (with_reducible refine St.load h ?_) | (with_reducible refine St.loadS h ?_) | (with_reducible refine a_fld0 ?_) | (with_reducible refine St.store h fun W h => ?_) | (with_reducible refine St.storeS h fun W h => ?_) | (with_reducible refine St.alloc h fun b W h => ?_) | (with_reducible refine St.allocS h fun b W h => ?_) | (with_reducible refine a_nil ?_) | (with_reducible refine ss_load ?_) | (with_reducible refine ss_loadS ?_) | (with_reducible refine ss_eqb ?_)))
      refine ⟨rfl, rfl, ?_⟩
      rw [show ((i : Int) + 1) = ((i + 1 : Nat) : Int) by push_cast; rfl]
      exact hnext (i + 1, b') W (by simp only; omega) ⟨by simp only; omega, mm', hmm', h.to⟩
    refine w_eql (ifd (fun hk0 => ?_) fun hk0 => ?_)
    · refine ⟨fun W' => Rec W' ob 45 [.int .i64 o.kind, .int .i64 o.k, .int .i64 o.hi, strV o.v], h.drew.rc, ?_⟩
      replace h := h.drew
      refine a_fld0 (s_ld (t := 45) (cs := [.int .i64 o.kind, .int .i64 o.k, .int .i64 o.hi, strV o.v]) (fun w hw => hw) rfl ?_)
      refine a_fld0 (s_ld (t := 45) (cs := [.int .i64 o.kind, .int .i64 o.k, .int .i64 o.hi, strV o.v]) (fun w hw => hw) rfl ?_)
      refine a_fld0 (s_ld (t := 45) (cs := [.int .i64 o.kind, .int .i64 o.k, .int .i64 o.hi, strV o.v]) (fun w hw => hw) rfl ?_)
      refine a_fld0 (s_ld (t := 45) (cs := [.int .i64 o.kind, .int .i64 o.k, .int .i64 o.hi, strV o.v]) (fun w hw => hw) rfl ?_)
      refine putis_spec (v := .pointer (some ⟨b, 0, none⟩)) (k := o.k) (x := o.v) h (by omega) fun W h => ⟨h.rc, ?_⟩
      refine rput_spec (v := .pointer (some ⟨bx, 0, none⟩)) h (by omega) fun W h => ⟨h.rc, ?_⟩
      refine ss_eqb ?_
      rw [beq_self_eq_true]
      have := putK_len2 o.k o.v mm
      exact ⟨b, putK o.k o.v mm, rfl, by omega, h.to⟩
    refine jni (fun vs W => ∃ b' mm', vs = [v, .pointer (some ⟨b', 0, none⟩), .pointer (some ⟨bx, 0, none⟩), nV .i64 i, .pointer (some ⟨ob, 0, none⟩), .bool true] ∧ mm'.length ≤ i + 1 ∧
        St w G0 [Ky ob (Ob (.cells [(.int .i64 o.kind : Value), .int .i64 o.k, .int .i64 o.hi, strV o.v].toArray 45 (0, 0))), Ky (.pointer (some ⟨b', 0, none⟩) : Value) (Mpis mm'), Ky (.pointer (some ⟨bx, 0, none⟩) : Value) (Mx mm')] W) (fun vs W _ ⟨b', mm', e, h⟩ => by subst e; exact app6 ⟨b', mm', rfl, h⟩) ?_
    refine w_eql (ifd (fun hk1 => ?_) fun hk1 => ?_)
    · refine ⟨fun W' => Rec W' ob 45 [.int .i64 o.kind, .int .i64 o.k, .int .i64 o.hi, strV o.v], h.drew.rc, ?_⟩
      replace h := h.drew
      refine a_fld0 (s_ld (t := 45) (cs := [.int .i64 o.kind, .int .i64 o.k, .int .i64 o.hi, strV o.v]) (fun w hw => hw) rfl ?_)
      refine a_fld0 (s_ld (t := 45) (cs := [.int .i64 o.kind, .int .i64 o.k, .int .i64 o.hi, strV o.v]) (fun w hw => hw) rfl ?_)
      refine deleteis_spec (v := .pointer (some ⟨b, 0, none⟩)) (k := o.k) h (by omega) fun W h => ⟨h.rc, ?_⟩
      refine rdel_spec (v := .pointer (some ⟨bx, 0, none⟩)) h (by omega) fun W h => ⟨h.rc, ?_⟩
      refine ss_eqb ?_
      rw [beq_self_eq_true]
      have hdl : (delK o.k mm).length ≤ mm.length := by
        have := posK_le o.k mm
        unfold delK
        split <;> simp [List.length_take, List.length_drop] <;> omega
      exact ⟨b, delK o.k mm, rfl, by omega, h.to⟩
    refine jni (fun vs W => ∃ b' mm', vs = [v, .pointer (some ⟨b', 0, none⟩), .pointer (some ⟨bx, 0, none⟩), nV .i64 i, .pointer (some ⟨ob, 0, none⟩), .bool true] ∧ mm'.length ≤ i + 1 ∧
        St w G0 [Ky ob (Ob (.cells [(.int .i64 o.kind : Value), .int .i64 o.k, .int .i64 o.hi, strV o.v].toArray 45 (0, 0))), Ky (.pointer (some ⟨b', 0, none⟩) : Value) (Mpis mm'), Ky (.pointer (some ⟨bx, 0, none⟩) : Value) (Mx mm')] W) (fun vs W _ ⟨b', mm', e, h⟩ => by subst e; exact app6 ⟨b', mm', rfl, h⟩) ?_
    refine w_eql (ifd (fun hk2 => ?_) fun hk2 => ?_)
    · refine a_fld0 (h.load ?_)
      obtain ⟨_, _, hsr⟩ := h.ptrM (v := .pointer (some ⟨bx, 0, none⟩))
      have hhg := hasK_get (k := o.k) hsr
      refine getis_spec (v := .pointer (some ⟨b, 0, none⟩)) (k := o.k) h (by omega) (fun x W hx h _ => ?_) fun W hx h _ => ?_
      · have hh : hasK o.k mm = true := by rw [hhg, hx]; rfl
        obtain ⟨u, hu⟩ := hasK_spec.1 hh
        have hgp := getK_pos (k := o.k) hsr
        rw [hx, if_pos hh, hu] at hgp
        obtain rfl : x = u := by cases hgp; rfl
        refine a_ext0 (a_ext1 ?_)
        refine a_fld0 (h.load ?_)
        refine rfind_spec (v := .pointer (some ⟨bx, 0, none⟩)) (k := o.k) h (by omega) fun W hb => ?_
        replace h := h.ext hb
        refine a_ext0 (a_ext1 ?_)
        rw [hh]
        refine jni (fun vs W => vs = [v, .pointer (some ⟨b, 0, none⟩), .pointer (some ⟨bx, 0, none⟩), nV .i64 i, .pointer (some ⟨ob, 0, none⟩), strV x, .bool true, .bool true, strV x] ∧ St w G0 [Ky ob (Ob (.cells [(.int .i64 o.kind : Value), .int .i64 o.k, .int .i64 o.hi, strV o.v].toArray 45 (0, 0))), Ky (.pointer (some ⟨b, 0, none⟩) : Value) (Mpis mm), Ky (.pointer (some ⟨bx, 0, none⟩) : Value) (Mx mm)] W) ?_ ?_
        · rintro vs W _ ⟨rfl, h⟩
          refine app9 ?_
          refine jni (fun vs W => vs = [v, .pointer (some ⟨b, 0, none⟩), .pointer (some ⟨bx, 0, none⟩), nV .i64 i, .pointer (some ⟨ob, 0, none⟩), .bool true] ∧ St w G0 [Ky ob (Ob (.cells [(.int .i64 o.kind : Value), .int .i64 o.k, .int .i64 o.hi, strV o.v].toArray 45 (0, 0))), Ky (.pointer (some ⟨b, 0, none⟩) : Value) (Mpis mm), Ky (.pointer (some ⟨bx, 0, none⟩) : Value) (Mx mm)] W)
            (fun vs W _ ⟨e, h⟩ => by subst e; exact app6 ⟨b, mm, rfl, by omega, h⟩) ?_
          refine x_eqb (ift ?_)
          refine w_eqlL ?_
          rw [decide_eq_true rfl]
          exact ⟨rfl, h⟩
        · refine ift ?_
          refine a_nil (a_fld0 ?_)
          obtain ⟨bx', sl, e1, hs2, oo', h2⟩ := h.openM (v := .pointer (some ⟨bx, 0, none⟩))
          cases e1
          refine h2.load ?_
          refine x_fld (h2.osl (v := sl)) (List.getElem?_eq_some_iff.1 hu).1 (by decide) (pcells_get hu).2 ?_
          exact ⟨rfl, h.to⟩
      · have hh : hasK o.k mm = false := by rw [hhg, hx]; rfl
        refine a_ext0 (a_ext1 ?_)
        refine a_fld0 (h.load ?_)
        refine rfind_spec (v := .pointer (some ⟨bx, 0, none⟩)) (k := o.k) h (by omega) fun W hb => ?_
        replace h := h.ext hb
        refine a_ext0 (a_ext1 ?_)
        rw [hh]
        refine jni (fun vs W => vs = [v, .pointer (some ⟨b, 0, none⟩), .pointer (some ⟨bx, 0, none⟩), nV .i64 i, .pointer (some ⟨ob, 0, none⟩), strV [], .bool false, .bool false, strV []] ∧ St w G0 [Ky ob (Ob (.cells [(.int .i64 o.kind : Value), .int .i64 o.k, .int .i64 o.hi, strV o.v].toArray 45 (0, 0))), Ky (.pointer (some ⟨b, 0, none⟩) : Value) (Mpis mm), Ky (.pointer (some ⟨bx, 0, none⟩) : Value) (Mx mm)] W) ?_ ?_
        · rintro vs W _ ⟨rfl, h⟩
          refine app9 ?_
          refine jni (fun vs W => vs = [v, .pointer (some ⟨b, 0, none⟩), .pointer (some ⟨bx, 0, none⟩), nV .i64 i, .pointer (some ⟨ob, 0, none⟩), .bool true] ∧ St w G0 [Ky ob (Ob (.cells [(.int .i64 o.kind : Value), .int .i64 o.k, .int .i64 o.hi, strV o.v].toArray 45 (0, 0))), Ky (.pointer (some ⟨b, 0, none⟩) : Value) (Mpis mm), Ky (.pointer (some ⟨bx, 0, none⟩) : Value) (Mx mm)] W)
            (fun vs W _ ⟨e, h⟩ => by subst e; exact app6 ⟨b, mm, rfl, by omega, h⟩) ?_
          refine x_eqb (ift ?_)
          refine w_eqlL ?_
          rw [decide_eq_true rfl]
          exact ⟨rfl, h⟩
        · exact iff' ⟨rfl, h.to⟩
    refine jni (fun vs W => ∃ b' mm', vs = [v, .pointer (some ⟨b', 0, none⟩), .pointer (some ⟨bx, 0, none⟩), nV .i64 i, .pointer (some ⟨ob, 0, none⟩), .bool true] ∧ mm'.length ≤ i + 1 ∧
        St w G0 [Ky ob (Ob (.cells [(.int .i64 o.kind : Value), .int .i64 o.k, .int .i64 o.hi, strV o.v].toArray 45 (0, 0))), Ky (.pointer (some ⟨b', 0, none⟩) : Value) (Mpis mm'), Ky (.pointer (some ⟨bx, 0, none⟩) : Value) (Mx mm')] W) (fun vs W _ ⟨b', mm', e, h⟩ => by subst e; exact app6 ⟨b', mm', rfl, h⟩) ?_
    refine w_eql (ifd (fun hk3 => ?_) fun hk3 => ?_)
    · refine copyis_spec (v := .pointer (some ⟨b, 0, none⟩)) h (by omega) fun c W h => ?_
      obtain ⟨bc, rfl, _⟩ := h.ptrM (v := c)
      refine a_fld0 (h.load ?_)
      refine putis_spec (v := .pointer (some ⟨b, 0, none⟩)) (k := o.k) (x := ([115, 112, 111, 105, 108, 116] : Txt)) h (by omega) fun W h => ?_
      refine a_fld0 (h.load ?_)
      have := putK_len2 o.k ([115, 112, 111, 105, 108, 116] : Txt) mm
      refine deleteis_spec (v := .pointer (some ⟨b, 0, none⟩)) (k := o.hi) h (by omega) fun W h => ?_
      refine x_nilPn ?_
      exact ⟨bc, mm, rfl, by omega, h.to⟩
    · exact ⟨b, mm, rfl, by omega, h.to⟩
  · exact first2_spec fun W m => hR W (h.ext m).low
end Go.Proofs.Ytdjgchofnkancaa
