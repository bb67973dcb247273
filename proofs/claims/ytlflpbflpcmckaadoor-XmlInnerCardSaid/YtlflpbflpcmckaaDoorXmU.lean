/-
  XML: Tokens, and what the chapter's examples fix: what each answers.
-/
import Derived.Test.YtlflpbflpcmckaaDoorXmO
namespace Go.Proofs.YtlflpbflpcmckaaDoor
open Go Go.Ez Go.RowKit Go.Lib
set_option linter.unusedSimpArgs false
set_option linter.unusedVariables false
/-- v tells tokens -/
def Toks (W : World) (v : Value) (ts : List XTk) : Prop := ∃ ov : List (XTk × Value), ov.map Prod.fst = ts ∧ Sl W 5 v ov.length (rcells tcell ov) ∧ ∀ p ∈ ov, p.2.oneCell' = true ∧ Sl W 3 p.2 p.1.attrs.length (rcells atc p.1.attrs)
theorem Toks.below {W W' : World} {v : Value} {ts : List XTk} (h : Toks W v ts) (hb : Below W.heap.size W W') : Toks W' v ts := by
  obtain ⟨ov, h1, h2, h3⟩ := h
  exact ⟨ov, h1, h2.below hb, fun p hp => ⟨(h3 p hp).1, (h3 p hp).2.below hb⟩⟩
theorem Toks.nil (W : World) : Toks W (.slice none 0 0) [] := ⟨[], rfl, Sl.nil W 5, fun p hp => by cases hp⟩
abbrev tokX (s : Txt) : List XTk × Int := XRd.tokens decX signS s
section
variable {w0 W W' : World} {G : Nat → Prop} {l R R1 R2 : List As} {RR : Value → World → Prop} {t s pre : Txt} {b g n mb : Nat} {r : XRd} {v : Value} {f : XFr} {m : XMem} {L : List XPr} {name : Txt × Txt}
theorem nil_tks {vo vp vb : Value} (h : St w0 G R W) : St w0 G (Ky (.slice none 0 0) (TkS []) :: Ky (.slice none 0 0) (FrS []) :: Ky (.slice none 0 0) (Ow 5 1 0 []) :: Ky PoolK.a (KqA []) :: Ky PoolK.b (Km []) :: R) W :=
  (((St.kqNil PoolK.a atc 35 3 (St.kmNil PoolK.b h)).nilOw).nilOw).nilOw
theorem tokens_spec (hT : XTabs w0) (h : St w0 G0 l W) (hv : By W v s) (k : ∀ v' W', St w0 G0 l W' → Toks W' v' (tokX s).1 → RR (.tuple #[v', .int .i64 (tokX s).2]) W') : CallF Tryd.prog 10 #[v] W RR := by
  refine sh10_calls ?_
  unfold sh10
  have hpl : ∀ q : XRd, (XRd.part decX signS q).1.length ≤ q.s.length + 4 := fun q => part_len
  unfold tokX XRd.tokens at k
  refine x_lenS hv (a_gtr (ifd (fun hc => ?_) fun hc => ?_))
  · rw [if_pos (by omega)] at k
    exact k _ W h (.nil W)
  rw [if_neg (by omega)] at k
  dsimp only at k
  have hs : s.length ≤ 20000 := by omega
  refine x_str hv ?_
  refine x_bld (cells := (xcells ⟨s, 0, 0, [], [], []⟩ (.slice none 0 0, .slice none 0 0, .pointer none, .slice none 0 0)).toArray) rfl ?_
  refine h.boxS fun b W h => ?_
  obtain ⟨m, hm, h⟩ : ∃ m, XFit ⟨s, 0, 0, [], [], []⟩ m ∧ St w0 G0 (XLs ⟨s, 0, 0, [], [], []⟩ b m l) W := by
    refine ⟨⟨.slice none 0 0, .slice none 0 0, .slice none 0 0, false, [], [], [], []⟩, ⟨rfl, by simp, rfl, by simp⟩, ?_⟩
    have h2 := nil_tks (vo := .nilFunc) (vp := .nilFunc) (vb := .nilFunc) h
    exact h2.find (k := b) (X := Xo ⟨s, 0, 0, [], [], []⟩ (.slice none 0 0, .slice none 0 0, .pointer none, .slice none 0 0))
  have hst1 := XRd.stp_front (dec := decX) (r := ⟨s, 0, 0, [], [], []⟩) decX_ok (Nat.zero_le _)
  -- what does not touch tokens
  have keep : ∀ {q z : XRd} {W : World} {m : XMem}, XRd.Stp q z → XFit q m → St w0 G0 (Ky b (Xo z (xc b m)) :: Ky m.vo (TkS m.ov) :: Ky m.vp (FrS m.pv) :: Ky m.vb (Ow 5 1 q.run.length (bytesV q.run)) :: Ky PoolK.a (KqA m.zs) :: Ky PoolK.b (Km m.ms) :: l) W → XFit z m ∧ St w0 G0 (XLs z b m l) W := fun hst hm h =>
    ⟨hm.same hst.out hst.op, xls_of hst.run h⟩
  refine front_spec hT (r := ⟨s, 0, 0, [], [], []⟩) (c := xc b m) h (Nat.zero_le _) (by show s.length ≤ _; omega) fun W h => ?_
  replace h := keep hst1 hm h
  generalize XRd.front decX ⟨s, 0, 0, [], [], []⟩ = r at *
  obtain ⟨hm, h⟩ := h
  have hrs : r.s = s := hst1.s
  have hrs' : r.s.length = s.length := by rw [hrs]
  have hr0 : r.out = [] ∧ r.op = [] ∧ r.run = [] := ⟨hst1.out, hst1.op, hst1.run⟩
  have hst2 := XRd.stp_see (n := 0) hst1.ok
  refine see_spec (n := 0) (r := r) (c := xc b m) h hst1.ok (by omega) (by decide) fun W h => ?_
  obtain ⟨hm, h⟩ := keep hst2 hm h
  generalize hq1 : (r.see 0).2.failIf (decide ((r.see 0).2.e = 0 ∧ (r.see 0).1 ≠ 60)) 4 = q1 at k
  have hst3 : XRd.Stp r q1 := by rw [← hq1]; exact hst2.trans (XRd.stp_failIf (by decide) hst2.ok)
  refine jni (fun vs W' => vs = [.pointer (some ⟨b, 0, none⟩)] ∧ ∃ m, XFit q1 m ∧ St w0 G0 (XLs q1 b m l) W') ?_ ?_
  rotate_left
  · refine a_nil (a_fld0 (h.load ?_))
    refine w_eql (ifd (fun he => ?_) fun he => ?_)
    · refine w_neC 60 rfl (ifd (fun h60 => ?_) fun h60 => ?_)
      · refine fail_spec (r := (r.see 0).2) (c := xc b m) h fun W h => ⟨rfl, m, ?_⟩
        rw [decide_eq_true (show _ ∧ _ from ⟨he, h60⟩)] at hq1
        rw [← hq1]
        exact keep (XRd.stp_fail (by decide) hst2.ok.lt) hm h
      · refine ⟨rfl, m, ?_⟩
        rw [decide_eq_false (fun hx => h60 hx.2)] at hq1
        rw [← hq1]
        exact ⟨hm, h⟩
    · refine ⟨rfl, m, ?_⟩
      rw [decide_eq_false (fun hx => he hx.1)] at hq1
      rw [← hq1]
      exact ⟨hm, h⟩
  clear h hm
  rintro vs W _ ⟨rfl, m, hm, h⟩
  refine app1 ?_
  have hst4 := hst3.trans (XRd.stp_see (n := 1) hst3.ok)
  have hq1s : q1.s.length = s.length := by rw [hst3.s, hrs]
  refine see_spec (n := 1) (r := q1) (c := xc b m) h hst3.ok (by omega) (by decide) fun W h => ?_
  obtain ⟨hm, h⟩ := keep (XRd.stp_see (n := 1) hst3.ok) hm h
  have hx1 : (q1.see 1).2.e = 0 → q1.at_ + 1 < q1.s.length := fun he => by
    obtain ⟨c, hc, _⟩ := XRd.see_e he
    exact XRd.lt_of_at hc
  have hxa : (q1.see 1).2.at_ = q1.at_ := XRd.see_at
  generalize q1.see 1 = Y at *
  obtain ⟨y1, y⟩ := Y
  simp only at *
  generalize hq2 : y.failIf (decide (y.e = 0) && !XRd.begs y1) 4 = q2 at k
  have hst5 : XRd.Stp r q2 := by rw [← hq2]; exact hst4.trans (XRd.stp_failIf (by decide) hst4.ok)
  have hq2x : q2.e = 0 → q2.at_ + 1 ≤ q2.s.length := fun he => by
    obtain ⟨_, e2⟩ := XRd.failIf_e (by decide) (show (y.failIf _ 4).e = 0 by rw [hq2]; exact he)
    rw [hq2] at e2
    have h1 := hx1 (by rw [← e2]; exact he)
    have h2 : q2.at_ = q1.at_ := by rw [e2, hxa]
    have h3 : q2.s.length = q1.s.length := by rw [hst5.s, hst3.s]
    omega
  refine jni (fun vs W' => vs = [.pointer (some ⟨b, 0, none⟩)] ∧ ∃ m, XFit q2 m ∧ St w0 G0 (XLs q2 b m l) W') ?_ ?_
  rotate_left
  · refine a_nil (a_fld0 (h.load ?_))
    refine w_eql (ifd (fun he => ?_) fun he => ?_)
    · refine begins_spec (a_not (ifnb (fun hb => ?_) fun hb => ?_))
      · refine fail_spec (r := y) (c := xc b m) h fun W h => ⟨rfl, m, ?_⟩
        rw [decide_eq_true he, hb] at hq2
        rw [← hq2]
        exact keep (XRd.stp_fail (by decide) hst4.ok.lt) hm h
      · refine ⟨rfl, m, ?_⟩
        rw [hb, Bool.not_true, Bool.and_false] at hq2
        rw [← hq2]
        exact ⟨hm, h⟩
    · refine ⟨rfl, m, ?_⟩
      rw [decide_eq_false he, Bool.false_and] at hq2
      rw [← hq2]
      exact ⟨hm, h⟩
  clear h hm
  rintro vs W _ ⟨rfl, m, hm, h⟩
  refine app1 ?_
  clear hq2 hst4 hxa hx1
  have hq2s : q2.s.length = s.length := by rw [hst5.s, hrs]
  have hq2o : q2.out = [] ∧ q2.op = [] ∧ q2.run = [] := ⟨hst5.out.trans hr0.1, hst5.op.trans hr0.2.1, hst5.run.trans hr0.2.2⟩
  generalize hq3 : (if q2.e = 0 then XRd.element decX signS q2 else q2) = q3 at k
  have hb3 : XRd.Bnd 2 q2 q3 := by
    rw [← hq3]
    split
    · rename_i he
      exact (XRd.bnd_element (sgn := signS) decX_ok (hq2x he)).1
    · exact (XRd.Stp.refl hst5.ok).bnd.mono (by omega)
  refine jni (fun vs W' => vs = [.pointer (some ⟨b, 0, none⟩)] ∧ ∃ m, XFit q3 m ∧ St w0 G0 (XLs q3 b m l) W') ?_ ?_
  rotate_left
  · refine a_nil (a_fld0 (h.load ?_))
    refine w_eql (ifd (fun he => ?_) fun he => ?_)
    · rw [if_pos he] at hq3
      rw [← hq3]
      exact element_spec hT (r := q2) h hm (hq2x he) (by omega) (by rw [hq2o.2.1]; exact Nat.zero_le _) (by rw [hq2o.1]; exact Nat.zero_le _) fun m' W hm' h => ⟨rfl, m', hm', h⟩
    · rw [if_neg he] at hq3
      rw [← hq3]
      exact ⟨rfl, m, hm, h⟩
  clear h hm
  rintro vs W _ ⟨rfl, m, hm, h⟩
  refine app1 ?_
  have hq3s : q3.s.length = s.length := by rw [hb3.s, hq2s]
  generalize hq4 : XRd.contents decX signS (s.length + 2) q3 = q4 at k
  refine jni (fun vs W' => vs = [.pointer (some ⟨b, 0, none⟩)] ∧ q4.Ok ∧ q4.s.length = s.length ∧ ∃ m, XFit q4 m ∧ St w0 G0 (XLs q4 b m l) W') ?_ ?_
  rotate_left
  · have ho := hb3.out
    have hp := hb3.op
    have hr := hb3.run
    rw [hq2o.1] at ho
    rw [hq2o.2.1] at hp
    rw [hq2o.2.2] at hr
    simp only [List.length_nil] at ho hp hr
    refine lpx (α := Nat × XRd) (fun _ => []) (fun A W' => A.2.Ok ∧ A.2.s.length = s.length ∧ A.2.op.length ≤ 64 ∧ A.2.out.length + 3 * A.1 ≤ 3 * (s.length + 2) + 2 ∧ A.2.run.length + A.1 * 30000 ≤ (s.length + 4) * 30000 ∧ (A.2.e = 0 → s.length < A.1 + A.2.at_) ∧ XRd.contents decX signS A.1 A.2 = q4 ∧ ∃ m, XFit A.2 m ∧ St w0 G0 (XLs A.2 b m l) W') (fun A => A.1) (s.length + 2, q3) (fun _ => rfl) rfl
      ⟨hb3.ok, hq3s, by simp only; omega, by simp only; omega, by simp only; omega, fun _ => by simp only; omega, hq4, m, hm, h⟩ ?_
    clear h hm
    rintro next ⟨f, z⟩ W1 hnext ⟨h1, h2, h3, h4, h5, h6, h7, m, hm, h⟩
    simp only at h1 h2 h3 h4 h5 h6 h7 hm h
    refine app0 ?_
    have hplen := hm.plen
    refine a_nil (a_fld0 (h.load ?_))
    refine w_eql (ifd (fun he => ?_) fun he => ?_)
    · refine a_nil (a_fld0 (h.load ?_))
      refine x_lenS (h.osl (v := m.vp)) ?_
      refine a_gtr (ifd (fun hg => ?_) fun hg => ?_)
      · have h6' := h6 he
        have hzl := h1.le he
        obtain ⟨f, rfl⟩ : ∃ g, f = g + 1 := ⟨f - 1, by omega⟩
        have hne : z.op ≠ [] := fun e => by rw [e] at hplen; simp only [List.length_nil] at hplen; omega
        unfold XRd.contents at h7
        rw [if_pos ⟨he, hne⟩] at h7
        obtain ⟨b1, b2⟩ := XRd.bnd_content (sgn := signS) decX_ok hpl h1
        have ho := b1.out
        have hp := b1.op
        have hr := b1.run
        have h5' : (XRd.content decX signS z).run.length + f * 30000 ≤ (s.length + 4) * 30000 := by rw [Nat.succ_mul] at h5; omega
        refine content_spec hT (r := z) h hm h1 (by omega) hne (by omega) (by omega) (by omega) fun m' W hm' h => ⟨trivial, ?_⟩
        exact hnext (f, XRd.content decX signS z) W (by simp) ⟨b1.ok, by rw [b1.s]; exact h2, by simp only; omega, by simp only; omega, h5', fun h0 => by have := b2 h0; simp only; omega, h7, m', hm', h⟩
      · have hne : z.op = [] := List.eq_nil_of_length_eq_zero (by omega)
        have : z = q4 := by
          rw [← h7]
          cases f
          · rfl
          · unfold XRd.contents; rw [if_neg (fun hx => hx.2 hne)]
        rw [← this]
        exact ⟨rfl, h1, h2, m, hm, h⟩
    · have : z = q4 := by
        rw [← h7]
        cases f
        · rfl
        · unfold XRd.contents; rw [if_neg (fun hx => he hx.1)]
      rw [← this]
      exact ⟨rfl, h1, h2, m, hm, h⟩
  clear h hm
  rintro vs W _ ⟨rfl, hok4, hq4s, m, hm, h⟩
  refine app1 ?_
  refine misc_spec hT (f := s.length + 2) (r := q4) (c := xc b m) h hok4 (by omega) (by omega) fun W h => ?_
  have hst6 := XRd.stp_misc (dec := decX) (f := s.length + 2) decX_ok hok4
  obtain ⟨hm, h⟩ := keep hst6 hm h
  generalize XRd.misc decX (s.length + 2) q4 = q5 at *
  have hq5s : q5.s.length = s.length := by rw [hst6.s]; exact hq4s
  have hq5l := hst6.ok.lt
  generalize hq6 : q5.failIf (decide (q5.e = 0 ∧ q5.at_ < q5.s.length)) 4 = q6 at k
  refine jni (fun vs W' => vs = [.pointer (some ⟨b, 0, none⟩)] ∧ ∃ m, XFit q6 m ∧ St w0 G0 (XLs q6 b m l) W') ?_ ?_
  · clear h hm
    rintro vs W _ ⟨rfl, m, hm, h⟩
    refine app1 ?_
    refine a_nil (a_fld0 (h.load ?_))
    refine w_neq (ifd (fun he => ?_) fun he => ?_)
    · rw [if_pos he] at k
      refine ⟨St w0 G0 _, h.drew, ?_⟩
      replace h := h.drew
      refine a_nil (a_fld0 (ss_load ?_))
      exact k _ _ h.to (.nil _)
    · rw [if_neg he] at k
      refine a_nil (a_fld0 (h.load ?_))
      refine k _ _ h.to ⟨m.ov, hm.ov, h.osl (v := m.vo), fun p hp => ⟨(hm.oz p hp).2, ?_⟩⟩
      rcases (hm.oz p hp).1 with hz | ⟨e1, e2⟩
      · exact h.kqGet (k := PoolK.a) hz
      · rw [e1, e2]; exact Sl.nil W 3
  · have fin1 : ¬ (q5.e = 0 ∧ q5.at_ < q5.s.length) → ∀ W, St w0 G0 (XLs q5 b m l) W → ([Value.pointer (some ⟨b, 0, none⟩)] = [.pointer (some ⟨b, 0, none⟩)] ∧ ∃ m, XFit q6 m ∧ St w0 G0 (XLs q6 b m l) W) := fun hx W h => by
      rw [decide_eq_false hx] at hq6
      rw [← hq6]
      exact ⟨rfl, m, hm, h⟩
    refine ⟨St w0 G0 _, h.drew, ?_⟩
    replace h := h.drew
    (repeat (first | (with_reducible refine ift ?_) | (with_reducible refine iff' ?_) | (with_reducible refine a_lss ?_) | (with_reducible refine a_leq ?_) | (with_reducible refine a_gtr ?_) | (with_reducible refine a_geq ?_) | (with_reducible refine w_eql ?_) | (with_reducible refine w_neq ?_) | (with_reducible refine s_eql ?_) | (with_reducible refine s_neq ?_) | ((with_reducible refine a_add64 ?h0 ?h1 ?_); (case h0 => omega); (case h1 => omega);  skip) | ((with_reducible refine a_sub64 ?h0 ?h1 ?_); (case h0 => omega); (case h1 => omega);  skip) | ((with_reducible refine a_mul64 ?h0 ?h1 ?_); (case h0 => omega); (case h1 => omega);  skip) | (with_reducible refine a_notd ?_) | (with_reducible refine a_not ?_) | (with_reducible refine a_ext0 ?_) | (with_reducible refine a_ext1 ?_) | (with_reducible refine a_ext2 ?_) | (with_reducible refine x_len ?_) | (with_reducible refine x_lens ?_) | (with_reducible refine x_eqb ?_) | (with_reducible refine x_neb ?_) | (with_reducible refine x_nilP ?_) | (with_reducible refine x_nilPn ?_) | (with_reducible refine x_nilF ?_) | (with_reducible refine x_nilFF ?_) | (with_reducible refine w_eqlL ?_) | (with_reducible refine w_neqL ?_) | (with_reducible refine s_eqlL ?_) | (with_reducible refine ifnt ?_) | (with_reducible refine ifnf ?_) | (with_reducible refine x_eqB ?_) | (with_reducible refine x_neB ?_) | (with_reducible refine x_lssL ?_) | (with_reducible refine x_gtrL ?_) | (with_reducible refine x_geqL ?_) | (with_reducible refine s_neqL ?_) | (with_reducible refine St.load h ?_) | (with_reducible refine St.loadS h ?_) | (with_reducible refine a_fld0 ?_) | (with_reducible refine St.store h fun W h => ?_) | (with_reducible refine St.storeS h fun W h => ?_) | (with_reducible refine St.alloc h fun b W h => ?_) | (with_reducible refine St.allocS h fun b W h => ?_) | (with_reducible refine a_nil ?_) | (with_reducible refine ss_load ?_) | (with_reducible refine ss_loadS ?_) | (with_reducible refine ss_eqb ?_)))
    refine ifd (fun he => ?_) fun he => fin1 (fun hx => he hx.1) _ h
    (repeat (first | (with_reducible refine ift ?_) | (with_reducible refine iff' ?_) | (with_reducible refine a_lss ?_) | (with_reducible refine a_leq ?_) | (with_reducible refine a_gtr ?_) | (with_reducible refine a_geq ?_) | (with_reducible refine w_eql ?_) | (with_reducible refine w_neq ?_) | (with_reducible refine s_eql ?_) | (with_reducible refine s_neq ?_) | ((with_reducible refine a_add64 ?h0 ?h1 ?_); (case h0 => omega); (case h1 => omega);  skip) | ((with_reducible refine a_sub64 ?h0 ?h1 ?_); (case h0 => omega); (case h1 => omega);  skip) | ((with_reducible refine a_mul64 ?h0 ?h1 ?_); (case h0 => omega); (case h1 => omega);  skip) | (with_reducible refine a_notd ?_) | (with_reducible refine a_not ?_) | (with_reducible refine a_ext0 ?_) | (with_reducible refine a_ext1 ?_) | (with_reducible refine a_ext2 ?_) | (with_reducible refine x_len ?_) | (with_reducible refine x_lens ?_) | (with_reducible refine x_eqb ?_) | (with_reducible refine x_neb ?_) | (with_reducible refine x_nilP ?_) | (with_reducible refine x_nilPn ?_) | (with_reducible refine x_nilF ?_) | (with_reducible refine x_nilFF ?_) | (with_reducible refine w_eqlL ?_) | (with_reducible refine w_neqL ?_) | (with_reducible refine s_eqlL ?_) | (with_reducible refine ifnt ?_) | (with_reducible refine ifnf ?_) | (with_reducible refine x_eqB ?_) | (with_reducible refine x_neB ?_) | (with_reducible refine x_lssL ?_) | (with_reducible refine x_gtrL ?_) | (with_reducible refine x_geqL ?_) | (with_reducible refine s_neqL ?_) | (with_reducible refine St.load h ?_) | (with_reducible refine St.loadS h ?_) | (with_reducible refine a_fld0 ?_) | (with_reducible refine St.store h fun W h => ?_) | (with_reducible refine St.storeS h fun W h => ?_) | (with_reducible refine St.alloc h fun b W h => ?_) | (with_reducible refine St.allocS h fun b W h => ?_) | (with_reducible refine a_nil ?_) | (with_reducible refine ss_load ?_) | (with_reducible refine ss_loadS ?_) | (with_reducible refine ss_eqb ?_)))
    refine ifd (fun hg => ?_) fun hg => fin1 (fun hx => hg (by omega)) _ h
    refine fail_spec (r := q5) (c := xc b m) h fun W h => ⟨rfl, m, ?_⟩
    rw [decide_eq_true (show q5.e = 0 ∧ q5.at_ < q5.s.length from ⟨he, by omega⟩)] at hq6
    rw [← hq6]
    exact keep (XRd.stp_fail (by decide) hst6.ok.lt) hm h
end
end Go.Proofs.YtlflpbflpcmckaaDoor
