/-
  XML: comment, misc, front: what each answers.
-/
import Derived.Test.YtlflpbflpcmckaaDoorXmH
namespace Go.Proofs.YtlflpbflpcmckaaDoor
open Go Go.Ez Go.RowKit Go.Lib
set_option linter.unusedSimpArgs false
set_option linter.unusedVariables false
section
variable {w0 W W' : World} {G : Nat → Prop} {l R R1 : List As} {RR : Value → World → Prop} {t s : Txt} {c : XC} {x : UInt8} {b g n f : Nat} {r : XRd}
theorem comment_spec (hT : XTabs w0) [i : Has l b (Xo r c) R] (h : St w0 G0 l W) (hok : r.Ok) (hs : r.s.length ≤ 1000000) (k : ∀ W', St w0 G0 (Ky b (Xo (XRd.comment decX r) c) :: R) W' → RR (.tuple #[]) W') : CallF Tryd.prog 47 #[.pointer (some ⟨b, 0, none⟩)] W RR := by
  refine sh47_calls ?_
  unfold sh47
  unfold XRd.comment at k
  have h1 := XRd.stp_wants (p := [60, 33, 45, 45]) hok
  have h2 := h1.trans (XRd.stp_til (p := [45, 45]) decX_ok h1.ok)
  refine wants_spec (p := [60, 33, 45, 45]) (r := r) (c := c) h hok hs (by decide) fun W h => ?_
  refine til_spec hT (p := [45, 45]) (r := _) (c := c) h h1.ok (by rw [h1.s]; exact hs) (by decide) fun W h => ?_
  exact wants_spec (p := [62]) (r := _) (c := c) h h2.ok (by rw [h2.s]; exact hs) (by decide) fun W h => k W h
theorem misc_spec (hT : XTabs w0) [i : Has l b (Xo r c) R] (h : St w0 G0 l W) (hok : r.Ok) (hs : r.s.length ≤ 1000000) (hf : r.s.length < f) (k : ∀ W', St w0 G0 (Ky b (Xo (XRd.misc decX f r) c) :: R) W' → RR (.tuple #[]) W') : CallF Tryd.prog 30 #[.pointer (some ⟨b, 0, none⟩)] W RR := by
  refine sh30_calls ?_
  unfold sh30
  replace h := h.find (k := b) (X := Xo r c)
  generalize hQ : XRd.misc decX f r = Q at k
  refine lpx (α := Nat × XRd) (fun _ => []) (fun A W' => A.2.Ok ∧ A.2.s = r.s ∧ (A.2.e = 0 → r.s.length < A.1 + A.2.at_) ∧ XRd.misc decX A.1 A.2 = Q ∧ St w0 G0 (Ky b (Xo A.2 c) :: R) W') (fun A => A.1) (f, r) (fun _ => rfl) rfl ⟨hok, rfl, fun _ => by simp only; omega, hQ, h⟩ ?_
  clear h
  rintro next ⟨f, z⟩ W1 hnext ⟨h1, h2, h3, h4, h⟩
  simp only at h1 h2 h3 h4 h
  refine app0 ?_
  have hsl : z.s.length = r.s.length := by rw [h2]
  refine a_nil (a_fld0 (h.load ?_))
  refine w_eql (ifd (fun he => ?_) fun he => ?_)
  · have h3' := h3 he
    have hzl := h1.le he
    obtain ⟨f, rfl⟩ : ∃ g, f = g + 1 := ⟨f - 1, by omega⟩
    unfold XRd.misc at h4
    rw [if_neg (fun hn => hn he)] at h4
    have hzb := XRd.stp_blanks h1
    have hbl : z.blanks.2.s.length = r.s.length := by rw [hzb.s, hsl]
    have hbe : z.blanks.2.e = z.e := rfl
    refine blanks_spec (r := z) (c := c) h h1 (by omega) fun W h => ?_
    have hup := hzb.up
    have hok2 := hzb.ok
    have hs2 := hzb.s
    generalize z.blanks.2 = y at *
    have hyl := hok2.le (hbe.trans he)
    refine ⟨St w0 G0 _, h.drew, ?_⟩
    replace h := h.drew
    (repeat (first | (with_reducible refine ift ?_) | (with_reducible refine iff' ?_) | (with_reducible refine a_lss ?_) | (with_reducible refine a_leq ?_) | (with_reducible refine a_gtr ?_) | (with_reducible refine a_geq ?_) | (with_reducible refine w_eql ?_) | (with_reducible refine w_neq ?_) | (with_reducible refine s_eql ?_) | (with_reducible refine s_neq ?_) | ((with_reducible refine a_add64 ?h0 ?h1 ?_); (case h0 => omega); (case h1 => omega);  skip) | ((with_reducible refine a_sub64 ?h0 ?h1 ?_); (case h0 => omega); (case h1 => omega);  skip) | ((with_reducible refine a_mul64 ?h0 ?h1 ?_); (case h0 => omega); (case h1 => omega);  skip) | (with_reducible refine a_notd ?_) | (with_reducible refine a_not ?_) | (with_reducible refine a_ext0 ?_) | (with_reducible refine a_ext1 ?_) | (with_reducible refine a_ext2 ?_) | (with_reducible refine x_len ?_) | (with_reducible refine x_lens ?_) | (with_reducible refine x_eqb ?_) | (with_reducible refine x_neb ?_) | (with_reducible refine x_nilP ?_) | (with_reducible refine x_nilPn ?_) | (with_reducible refine x_nilF ?_) | (with_reducible refine x_nilFF ?_) | (with_reducible refine w_eqlL ?_) | (with_reducible refine w_neqL ?_) | (with_reducible refine s_eqlL ?_) | (with_reducible refine ifnt ?_) | (with_reducible refine ifnf ?_) | (with_reducible refine x_eqB ?_) | (with_reducible refine x_neB ?_) | (with_reducible refine x_lssL ?_) | (with_reducible refine x_gtrL ?_) | (with_reducible refine x_geqL ?_) | (with_reducible refine s_neqL ?_) | (with_reducible refine St.load h ?_) | (with_reducible refine St.loadS h ?_) | (with_reducible refine a_fld0 ?_) | (with_reducible refine St.store h fun W h => ?_) | (with_reducible refine St.storeS h fun W h => ?_) | (with_reducible refine St.alloc h fun b W h => ?_) | (with_reducible refine St.allocS h fun b W h => ?_) | (with_reducible refine a_nil ?_) | (with_reducible refine ss_load ?_) | (with_reducible refine ss_loadS ?_) | (with_reducible refine ss_eqb ?_)))
    refine ifd (fun hc => ?_) fun hc => ?_
    · have hr : y.rest = [] := XRd.rest_none (by omega)
      rw [if_pos (by rw [hr]; rfl)] at h4
      rw [h4] at h
      exact k _ h
    · (repeat (first | (with_reducible refine ift ?_) | (with_reducible refine iff' ?_) | (with_reducible refine a_lss ?_) | (with_reducible refine a_leq ?_) | (with_reducible refine a_gtr ?_) | (with_reducible refine a_geq ?_) | (with_reducible refine w_eql ?_) | (with_reducible refine w_neq ?_) | (with_reducible refine s_eql ?_) | (with_reducible refine s_neq ?_) | ((with_reducible refine a_add64 ?h0 ?h1 ?_); (case h0 => omega); (case h1 => omega);  skip) | ((with_reducible refine a_sub64 ?h0 ?h1 ?_); (case h0 => omega); (case h1 => omega);  skip) | ((with_reducible refine a_mul64 ?h0 ?h1 ?_); (case h0 => omega); (case h1 => omega);  skip) | (with_reducible refine a_notd ?_) | (with_reducible refine a_not ?_) | (with_reducible refine a_ext0 ?_) | (with_reducible refine a_ext1 ?_) | (with_reducible refine a_ext2 ?_) | (with_reducible refine x_len ?_) | (with_reducible refine x_lens ?_) | (with_reducible refine x_eqb ?_) | (with_reducible refine x_neb ?_) | (with_reducible refine x_nilP ?_) | (with_reducible refine x_nilPn ?_) | (with_reducible refine x_nilF ?_) | (with_reducible refine x_nilFF ?_) | (with_reducible refine w_eqlL ?_) | (with_reducible refine w_neqL ?_) | (with_reducible refine s_eqlL ?_) | (with_reducible refine ifnt ?_) | (with_reducible refine ifnf ?_) | (with_reducible refine x_eqB ?_) | (with_reducible refine x_neB ?_) | (with_reducible refine x_lssL ?_) | (with_reducible refine x_gtrL ?_) | (with_reducible refine x_geqL ?_) | (with_reducible refine s_neqL ?_) | (with_reducible refine St.load h ?_) | (with_reducible refine St.loadS h ?_) | (with_reducible refine a_fld0 ?_) | (with_reducible refine St.store h fun W h => ?_) | (with_reducible refine St.storeS h fun W h => ?_) | (with_reducible refine St.alloc h fun b W h => ?_) | (with_reducible refine St.allocS h fun b W h => ?_) | (with_reducible refine a_nil ?_) | (with_reducible refine ss_load ?_) | (with_reducible refine ss_loadS ?_) | (with_reducible refine ss_eqb ?_)))
      refine x_cutL (by omega) ?_
      refine pre_spec (p := [60, 33]) (s := y.rest) ⟨h, a_not (ifnb (fun hp => ?_) fun hp => ?_)⟩
      · rw [if_pos hp] at h4
        rw [h4] at h
        exact k _ h
      · rw [if_neg (by rw [hp]; decide)] at h4
        have g1 := XRd.stp_comment decX_ok hok2
        have g2 := XRd.adv_comment decX_ok hok2
        refine comment_spec hT (r := y) (c := c) h hok2 (by omega) fun W h => ⟨rfl, ?_⟩
        exact hnext (f, XRd.comment decX y) W (by simp) ⟨g1.ok, g1.s.trans (hs2.trans h2), fun h0 => by have := g2 h0; simp only; omega, h4, h⟩
  · have : Q = z := by
      rw [← h4]
      cases f
      · rfl
      · unfold XRd.misc; rw [if_pos he]
    subst this
    exact k W1 h
theorem front_spec (hT : XTabs w0) [i : Has l b (Xo r c) R] (h : St w0 G0 l W) (hle : r.at_ ≤ r.s.length) (hs : r.s.length ≤ 1000000) (k : ∀ W', St w0 G0 (Ky b (Xo (XRd.front decX r) c) :: R) W' → RR (.tuple #[]) W') : CallF Tryd.prog 24 #[.pointer (some ⟨b, 0, none⟩)] W RR := by
  refine sh24_calls ?_
  unfold sh24
  replace h := h.find (k := b) (X := Xo r c)
  unfold XRd.front at k
  dsimp only at k
  generalize hq : (if XRd.isPre [239, 187, 191] r.rest = true then r.on 3 else r) = q at k
  have hq1 : q.s = r.s ∧ q.at_ ≤ q.s.length := by
    rw [← hq]
    split
    · rename_i hp
      have := XRd.isPre_len hp
      rw [XRd.rest_len] at this
      have h1 : ([239, 187, 191] : Txt).length = 3 := rfl
      exact ⟨rfl, by show r.at_ + 3 ≤ r.s.length; omega⟩
    · exact ⟨rfl, hle⟩
  have hql : q.s.length = r.s.length := by rw [hq1.1]
  have hq2 := hq1.2
  refine jni (fun vs W' => vs = [.pointer (some ⟨b, 0, none⟩)] ∧ St w0 G0 (Ky b (Xo q c) :: R) W') ?_ ?_
  · rintro vs W _ ⟨rfl, h⟩
    refine app1 ?_
    generalize hz : (if XRd.isPre [60, 63] q.rest = true then (XRd.til decX [63, 62] (if ((XRd.wants [60, 63, 120, 109, 108] q).see 0).2.e = 0 then ((XRd.wants [60, 63, 120, 109, 108] q).see 0).2.blanks.2.failIf (!((XRd.wants [60, 63, 120, 109, 108] q).see 0).2.blanks.1) 4 else ((XRd.wants [60, 63, 120, 109, 108] q).see 0).2)).2 else q) = z at k
    refine jni (fun vs W' => vs = [.pointer (some ⟨b, 0, none⟩)] ∧ z.Ok ∧ z.s.length = r.s.length ∧ St w0 G0 (Ky b (Xo z c) :: R) W') ?_ ?_
    · rintro vs W _ ⟨rfl, g1, g2, h⟩
      refine app1 ?_
      exact misc_spec hT (r := z) (c := c) h g1 (by omega) (by omega) fun W h => k W h
    · refine ⟨St w0 G0 _, h.drew, ?_⟩
      replace h := h.drew
      (repeat (first | (with_reducible refine ift ?_) | (with_reducible refine iff' ?_) | (with_reducible refine a_lss ?_) | (with_reducible refine a_leq ?_) | (with_reducible refine a_gtr ?_) | (with_reducible refine a_geq ?_) | (with_reducible refine w_eql ?_) | (with_reducible refine w_neq ?_) | (with_reducible refine s_eql ?_) | (with_reducible refine s_neq ?_) | ((with_reducible refine a_add64 ?h0 ?h1 ?_); (case h0 => omega); (case h1 => omega);  skip) | ((with_reducible refine a_sub64 ?h0 ?h1 ?_); (case h0 => omega); (case h1 => omega);  skip) | ((with_reducible refine a_mul64 ?h0 ?h1 ?_); (case h0 => omega); (case h1 => omega);  skip) | (with_reducible refine a_notd ?_) | (with_reducible refine a_not ?_) | (with_reducible refine a_ext0 ?_) | (with_reducible refine a_ext1 ?_) | (with_reducible refine a_ext2 ?_) | (with_reducible refine x_len ?_) | (with_reducible refine x_lens ?_) | (with_reducible refine x_eqb ?_) | (with_reducible refine x_neb ?_) | (with_reducible refine x_nilP ?_) | (with_reducible refine x_nilPn ?_) | (with_reducible refine x_nilF ?_) | (with_reducible refine x_nilFF ?_) | (with_reducible refine w_eqlL ?_) | (with_reducible refine w_neqL ?_) | (with_reducible refine s_eqlL ?_) | (with_reducible refine ifnt ?_) | (with_reducible refine ifnf ?_) | (with_reducible refine x_eqB ?_) | (with_reducible refine x_neB ?_) | (with_reducible refine x_lssL ?_) | (with_reducible refine x_gtrL ?_) | (with_reducible refine x_geqL ?_) | (with_reducible refine s_neqL ?_) | (with_reducible refine St.load h ?_) | (with_reducible refine St.loadS h ?_) | (with_reducible refine a_fld0 ?_) | (with_reducible refine St.store h fun W h => ?_) | (with_reducible refine St.storeS h fun W h => ?_) | (with_reducible refine St.alloc h fun b W h => ?_) | (with_reducible refine St.allocS h fun b W h => ?_) | (with_reducible refine a_nil ?_) | (with_reducible refine ss_load ?_) | (with_reducible refine ss_loadS ?_) | (with_reducible refine ss_eqb ?_)))
      refine x_cutL (by omega) ?_
      refine pre_spec (p := [60, 63]) (s := q.rest) (ifb (fun hp => ?_) fun hp => ?_)
      · rw [if_pos hp] at hz
        have h1 := XRd.stp_wants (p := [60, 63, 120, 109, 108]) (XRd.Ok.of_le hq2)
        have h2 := h1.trans (XRd.stp_see (n := 0) h1.ok)
        refine wants_spec (p := [60, 63, 120, 109, 108]) (r := q) (c := c) h (.of_le hq2) (by omega) (by decide) fun W h => ?_
        refine see_spec (n := 0) (r := _) (c := c) h h1.ok (by rw [h1.s]; omega) (by decide) fun W h => ?_
        generalize ((XRd.wants [60, 63, 120, 109, 108] q).see 0).2 = y at *
        generalize hY : (if y.e = 0 then y.blanks.2.failIf (!y.blanks.1) 4 else y) = Y at hz
        have h3 := h2.trans (XRd.stp_blanks h2.ok)
        have h4 := h3.trans (XRd.stp_failIf (b := !y.blanks.1) (c := 4) (by decide) h3.ok)
        have hYs : XRd.Stp q Y := by
          rw [← hY]
          split
          · exact h4
          · exact h2
        have h5 := hYs.trans (XRd.stp_til (p := [63, 62]) decX_ok hYs.ok)
        refine jni (fun vs W' => vs = [.pointer (some ⟨b, 0, none⟩)] ∧ St w0 G0 (Ky b (Xo Y c) :: R) W') ?_ ?_
        · rintro vs W _ ⟨rfl, h⟩
          refine app1 ?_
          refine til_spec hT (p := [63, 62]) (r := Y) (c := c) h hYs.ok (by rw [hYs.s]; omega) (by decide) fun W h => ?_
          rw [hz] at h h5
          exact ⟨rfl, h5.ok, by rw [h5.s]; exact hql, h⟩
        · refine a_nil (a_fld0 (h.load ?_))
          refine w_eql (ifd (fun he => ?_) fun he => ?_)
          · rw [if_pos he] at hY
            refine blanks_spec (r := y) (c := c) h h2.ok (by rw [h2.s]; omega) fun W h => ?_
            refine a_not (ifnb (fun hb => ?_) fun hb => ?_)
            · refine fail_spec (r := y.blanks.2) (c := c) h fun W h => ⟨rfl, ?_⟩
              rw [hb] at hY
              rw [← hY]; exact h
            · refine ⟨rfl, ?_⟩
              rw [hb] at hY
              rw [← hY]; exact h
          · rw [if_neg he] at hY
            rw [← hY]
            exact ⟨rfl, h⟩
      · rw [if_neg (by rw [hp]; decide)] at hz
        subst hz
        exact ⟨rfl, .of_le hq2, hql, h⟩
  · refine ⟨St w0 G0 _, h.drew, ?_⟩
    replace h := h.drew
    (repeat (first | (with_reducible refine ift ?_) | (with_reducible refine iff' ?_) | (with_reducible refine a_lss ?_) | (with_reducible refine a_leq ?_) | (with_reducible refine a_gtr ?_) | (with_reducible refine a_geq ?_) | (with_reducible refine w_eql ?_) | (with_reducible refine w_neq ?_) | (with_reducible refine s_eql ?_) | (with_reducible refine s_neq ?_) | ((with_reducible refine a_add64 ?h0 ?h1 ?_); (case h0 => omega); (case h1 => omega);  skip) | ((with_reducible refine a_sub64 ?h0 ?h1 ?_); (case h0 => omega); (case h1 => omega);  skip) | ((with_reducible refine a_mul64 ?h0 ?h1 ?_); (case h0 => omega); (case h1 => omega);  skip) | (with_reducible refine a_notd ?_) | (with_reducible refine a_not ?_) | (with_reducible refine a_ext0 ?_) | (with_reducible refine a_ext1 ?_) | (with_reducible refine a_ext2 ?_) | (with_reducible refine x_len ?_) | (with_reducible refine x_lens ?_) | (with_reducible refine x_eqb ?_) | (with_reducible refine x_neb ?_) | (with_reducible refine x_nilP ?_) | (with_reducible refine x_nilPn ?_) | (with_reducible refine x_nilF ?_) | (with_reducible refine x_nilFF ?_) | (with_reducible refine w_eqlL ?_) | (with_reducible refine w_neqL ?_) | (with_reducible refine s_eqlL ?_) | (with_reducible refine ifnt ?_) | (with_reducible refine ifnf ?_) | (with_reducible refine x_eqB ?_) | (with_reducible refine x_neB ?_) | (with_reducible refine x_lssL ?_) | (with_reducible refine x_gtrL ?_) | (with_reducible refine x_geqL ?_) | (with_reducible refine s_neqL ?_) | (with_reducible refine St.load h ?_) | (with_reducible refine St.loadS h ?_) | (with_reducible refine a_fld0 ?_) | (with_reducible refine St.store h fun W h => ?_) | (with_reducible refine St.storeS h fun W h => ?_) | (with_reducible refine St.alloc h fun b W h => ?_) | (with_reducible refine St.allocS h fun b W h => ?_) | (with_reducible refine a_nil ?_) | (with_reducible refine ss_load ?_) | (with_reducible refine ss_loadS ?_) | (with_reducible refine ss_eqb ?_)))
    refine x_cutL (by omega) ?_
    refine pre_spec (p := [239, 187, 191]) (s := r.rest) (ifb (fun hp => ?_) fun hp => ?_)
    · rw [if_pos hp] at hq
      rw [← hq]
      refine a_nil (a_fld0 (h.load ?_))
      refine a_add64 (by omega) (by omega) ?_
      refine a_nil (a_fld0 (h.store fun W h => ?_))
      exact ⟨rfl, h⟩
    · rw [if_neg (by rw [hp]; decide)] at hq
      rw [← hq]
      exact ⟨rfl, h⟩
end
end Go.Proofs.YtlflpbflpcmckaaDoor
