/-
  XML: reference, part, value: what each answers.
-/
import Derived.Test.YtlflpbflpcmckaaDoorXmF
namespace Go.Proofs.YtlflpbflpcmckaaDoor
open Go Go.Ez Go.RowKit Go.Lib
set_option linter.unusedSimpArgs false
set_option linter.unusedVariables false
theorem ref_short {rest : Txt} {l : List (Txt × Txt)} {b : Bool} {n : Txt × Txt} {r : XRd} (h : XRd.isPre n.1 rest = false) : XRd.refGo rest (n :: l) b r = XRd.refGo rest l (b || XRd.isPre rest n.1) r := by
  conv => lhs; unfold XRd.refGo
  rw [h]; rfl
section
variable {w0 W W' : World} {G : Nat → Prop} {l R : List As} {RR : Value → World → Prop} {t s p : Txt} {c : XC} {x : UInt8} {b n : Nat} {r : XRd}
theorem reference_spec (hT : XTabs w0) [i : Has l b (Xo r c) R] (h : St w0 G0 l W) (hle : r.at_ ≤ r.s.length) (hs : r.s.length ≤ 1000000) (k : ∀ W', St w0 G0 (Ky b (Xo (XRd.reference signS r).2 c) :: R) W' → RR (strV (XRd.reference signS r).1) W') : CallF Tryd.prog 59 #[.pointer (some ⟨b, 0, none⟩)] W RR := by
  refine sh59_calls ?_
  unfold sh59
  replace h := h.find (k := b) (X := Xo r c)
  unfold XRd.reference at k
  refine h.lit fun v1 W o1 h => ?_
  refine h.lit fun v2 W o2 h => ?_
  refine ⟨St w0 G0 _, h.drew, ?_⟩
  replace h := h.drew
  (repeat (first | (with_reducible refine ift ?_) | (with_reducible refine iff' ?_) | (with_reducible refine a_lss ?_) | (with_reducible refine a_leq ?_) | (with_reducible refine a_gtr ?_) | (with_reducible refine a_geq ?_) | (with_reducible refine w_eql ?_) | (with_reducible refine w_neq ?_) | (with_reducible refine s_eql ?_) | (with_reducible refine s_neq ?_) | ((with_reducible refine a_add64 ?h0 ?h1 ?_); (case h0 => omega); (case h1 => omega);  skip) | ((with_reducible refine a_sub64 ?h0 ?h1 ?_); (case h0 => omega); (case h1 => omega);  skip) | ((with_reducible refine a_mul64 ?h0 ?h1 ?_); (case h0 => omega); (case h1 => omega);  skip) | (with_reducible refine a_notd ?_) | (with_reducible refine a_not ?_) | (with_reducible refine a_ext0 ?_) | (with_reducible refine a_ext1 ?_) | (with_reducible refine a_ext2 ?_) | (with_reducible refine x_len ?_) | (with_reducible refine x_lens ?_) | (with_reducible refine x_eqb ?_) | (with_reducible refine x_neb ?_) | (with_reducible refine x_nilP ?_) | (with_reducible refine x_nilPn ?_) | (with_reducible refine x_nilF ?_) | (with_reducible refine x_nilFF ?_) | (with_reducible refine w_eqlL ?_) | (with_reducible refine w_neqL ?_) | (with_reducible refine s_eqlL ?_) | (with_reducible refine ifnt ?_) | (with_reducible refine ifnf ?_) | (with_reducible refine x_eqB ?_) | (with_reducible refine x_neB ?_) | (with_reducible refine x_lssL ?_) | (with_reducible refine x_gtrL ?_) | (with_reducible refine x_geqL ?_) | (with_reducible refine s_neqL ?_) | (with_reducible refine St.load h ?_) | (with_reducible refine St.loadS h ?_) | (with_reducible refine a_fld0 ?_) | (with_reducible refine St.store h fun W h => ?_) | (with_reducible refine St.storeS h fun W h => ?_) | (with_reducible refine St.alloc h fun b W h => ?_) | (with_reducible refine St.allocS h fun b W h => ?_) | (with_reducible refine a_nil ?_) | (with_reducible refine ss_load ?_) | (with_reducible refine ss_loadS ?_) | (with_reducible refine ss_eqb ?_)))
  refine x_cutL (by omega) ?_
  refine pre_spec (p := [35]) (s := r.rest) (ifb (fun hp => ?_) fun hp => ?_)
  · rw [if_pos hp] at k
    have hlen := XRd.isPre_len hp
    rw [XRd.rest_len] at hlen
    have h1 : ([35] : Txt).length = 1 := rfl
    (repeat (first | (with_reducible refine ift ?_) | (with_reducible refine iff' ?_) | (with_reducible refine a_lss ?_) | (with_reducible refine a_leq ?_) | (with_reducible refine a_gtr ?_) | (with_reducible refine a_geq ?_) | (with_reducible refine w_eql ?_) | (with_reducible refine w_neq ?_) | (with_reducible refine s_eql ?_) | (with_reducible refine s_neq ?_) | ((with_reducible refine a_add64 ?h0 ?h1 ?_); (case h0 => omega); (case h1 => omega);  skip) | ((with_reducible refine a_sub64 ?h0 ?h1 ?_); (case h0 => omega); (case h1 => omega);  skip) | ((with_reducible refine a_mul64 ?h0 ?h1 ?_); (case h0 => omega); (case h1 => omega);  skip) | (with_reducible refine a_notd ?_) | (with_reducible refine a_not ?_) | (with_reducible refine a_ext0 ?_) | (with_reducible refine a_ext1 ?_) | (with_reducible refine a_ext2 ?_) | (with_reducible refine x_len ?_) | (with_reducible refine x_lens ?_) | (with_reducible refine x_eqb ?_) | (with_reducible refine x_neb ?_) | (with_reducible refine x_nilP ?_) | (with_reducible refine x_nilPn ?_) | (with_reducible refine x_nilF ?_) | (with_reducible refine x_nilFF ?_) | (with_reducible refine w_eqlL ?_) | (with_reducible refine w_neqL ?_) | (with_reducible refine s_eqlL ?_) | (with_reducible refine ifnt ?_) | (with_reducible refine ifnf ?_) | (with_reducible refine x_eqB ?_) | (with_reducible refine x_neB ?_) | (with_reducible refine x_lssL ?_) | (with_reducible refine x_gtrL ?_) | (with_reducible refine x_geqL ?_) | (with_reducible refine s_neqL ?_) | (with_reducible refine St.load h ?_) | (with_reducible refine St.loadS h ?_) | (with_reducible refine a_fld0 ?_) | (with_reducible refine St.store h fun W h => ?_) | (with_reducible refine St.storeS h fun W h => ?_) | (with_reducible refine St.alloc h fun b W h => ?_) | (with_reducible refine St.allocS h fun b W h => ?_) | (with_reducible refine a_nil ?_) | (with_reducible refine ss_load ?_) | (with_reducible refine ss_loadS ?_) | (with_reducible refine ss_eqb ?_)))
    refine number_spec hT (r := r.on 1) (c := c) h (by show r.at_ + 1 ≤ r.s.length; omega) hs fun W h => ?_
    exact k W h.to
  · rw [if_neg (by rw [hp]; decide)] at k
    refine x_lenS (h.osl (v := v1)) ?_
    generalize hQ : XRd.refGo r.rest XRd.refNames false r = Q at k
    refine lpx (α := Nat × Bool) (fun A => [.bool A.2, nV .i64 A.1]) (fun A W' => A.1 ≤ 5 ∧ XRd.refGo r.rest (XRd.refNames.drop A.1) A.2 r = Q ∧ St w0 G0 (Ky v2 (Ow 9 1 5 [strV [60], strV [62], strV [38], strV [34], strV [39]]) :: Ky v1 (Ow 9 1 5 [strV [108, 116, 59], strV [103, 116, 59], strV [97, 109, 112, 59], strV [113, 117, 111, 116, 59], strV [97, 112, 111, 115, 59]]) :: Ky b (Xo r c) :: R) W') (fun A => 5 - A.1) (0, false) (fun _ => rfl) rfl ⟨by decide, hQ, h⟩ ?_
    clear h
    rintro next ⟨i, sh⟩ W1 hnext ⟨h1, h2, h⟩
    simp only at h1 h2 h
    refine app2 ?_
    refine a_lss (ifd (fun hc => ?_) fun hc => ?_)
    · have hi : i < 5 := by omega
      obtain ⟨nm, hn1, hn2, hn3, hnl⟩ : ∃ nm : Txt × Txt, XRd.refNames.drop i = nm :: XRd.refNames.drop (i + 1) ∧ [strV [108, 116, 59], strV [103, 116, 59], strV [97, 109, 112, 59], strV [113, 117, 111, 116, 59], strV [97, 112, 111, 115, 59]][i]? = some (strV nm.1) ∧ [strV [60], strV [62], strV [38], strV [34], strV [39]][i]? = some (strV nm.2) ∧ nm.1.length ≤ 5 := by
        match i, hi with
        | 0, _ => exact ⟨([108, 116, 59], [60]), rfl, rfl, rfl, by decide⟩
        | 1, _ => exact ⟨([103, 116, 59], [62]), rfl, rfl, rfl, by decide⟩
        | 2, _ => exact ⟨([97, 109, 112, 59], [38]), rfl, rfl, rfl, by decide⟩
        | 3, _ => exact ⟨([113, 117, 111, 116, 59], [34]), rfl, rfl, rfl, by decide⟩
        | 4, _ => exact ⟨([97, 112, 111, 115, 59], [39]), rfl, rfl, rfl, by decide⟩
      rw [hn1] at h2
      refine x_at (h.osl (v := v1)) hn2 ?_
      refine pre_spec (p := nm.1) (s := r.rest) (ifb (fun hpre => ?_) fun hpre => ?_)
      · have : Q = (nm.2, r.on nm.1.length) := by
          rw [← h2]
          unfold XRd.refGo
          rw [if_pos hpre]
        rw [this] at k
        have hlen := XRd.isPre_len hpre
        rw [XRd.rest_len] at hlen
        (repeat (first | (with_reducible refine ift ?_) | (with_reducible refine iff' ?_) | (with_reducible refine a_lss ?_) | (with_reducible refine a_leq ?_) | (with_reducible refine a_gtr ?_) | (with_reducible refine a_geq ?_) | (with_reducible refine w_eql ?_) | (with_reducible refine w_neq ?_) | (with_reducible refine s_eql ?_) | (with_reducible refine s_neq ?_) | ((with_reducible refine a_add64 ?h0 ?h1 ?_); (case h0 => omega); (case h1 => omega);  skip) | ((with_reducible refine a_sub64 ?h0 ?h1 ?_); (case h0 => omega); (case h1 => omega);  skip) | ((with_reducible refine a_mul64 ?h0 ?h1 ?_); (case h0 => omega); (case h1 => omega);  skip) | (with_reducible refine a_notd ?_) | (with_reducible refine a_not ?_) | (with_reducible refine a_ext0 ?_) | (with_reducible refine a_ext1 ?_) | (with_reducible refine a_ext2 ?_) | (with_reducible refine x_len ?_) | (with_reducible refine x_lens ?_) | (with_reducible refine x_eqb ?_) | (with_reducible refine x_neb ?_) | (with_reducible refine x_nilP ?_) | (with_reducible refine x_nilPn ?_) | (with_reducible refine x_nilF ?_) | (with_reducible refine x_nilFF ?_) | (with_reducible refine w_eqlL ?_) | (with_reducible refine w_neqL ?_) | (with_reducible refine s_eqlL ?_) | (with_reducible refine ifnt ?_) | (with_reducible refine ifnf ?_) | (with_reducible refine x_eqB ?_) | (with_reducible refine x_neB ?_) | (with_reducible refine x_lssL ?_) | (with_reducible refine x_gtrL ?_) | (with_reducible refine x_geqL ?_) | (with_reducible refine s_neqL ?_) | (with_reducible refine St.load h ?_) | (with_reducible refine St.loadS h ?_) | (with_reducible refine a_fld0 ?_) | (with_reducible refine St.store h fun W h => ?_) | (with_reducible refine St.storeS h fun W h => ?_) | (with_reducible refine St.alloc h fun b W h => ?_) | (with_reducible refine St.allocS h fun b W h => ?_) | (with_reducible refine a_nil ?_) | (with_reducible refine ss_load ?_) | (with_reducible refine ss_loadS ?_) | (with_reducible refine ss_eqb ?_)))
        refine x_at (h.osl (v := v2)) hn3 ?_
        exact k _ (St.to (l := Ky b (Xo (r.on nm.1.length) c) :: Ky v2 (Ow 9 1 5 [strV [60], strV [62], strV [38], strV [34], strV [39]]) :: Ky v1 (Ow 9 1 5 [strV [108, 116, 59], strV [103, 116, 59], strV [97, 109, 112, 59], strV [113, 117, 111, 116, 59], strV [97, 112, 111, 115, 59]]) :: R) h)
      · rw [ref_short hpre] at h2
        refine jni (fun vs W' => vs = [.pointer (some ⟨b, 0, none⟩), v2, strV r.rest, .bool (sh || XRd.isPre r.rest nm.1), v1, nV .i64 5, nV .i64 i] ∧ W' = W1) ?_ ?_
        · rintro vs W _ ⟨rfl, rfl⟩
          refine app7 ?_
          refine a_add64 (by omega) (by omega) ⟨rfl, rfl, rfl, rfl, rfl, ?_⟩
          rw [show ((i : Int) + 1) = ((i + 1 : Nat) : Int) by push_cast; rfl]
          exact hnext (i + 1, sh || XRd.isPre r.rest nm.1) _ (by simp only; omega) ⟨by simp only; omega, h2, h⟩
        · refine ifb (fun hsh => ?_) fun hsh => ?_ <;> replace hsh : sh = _ := hsh
          · exact ⟨by rw [hsh]; rfl, rfl⟩
          · exact pre_spec (p := r.rest) (s := nm.1) ⟨by rw [hsh]; rfl, rfl⟩
    · have hi : i = 5 := by omega
      subst hi
      have : Q = ([], (r.failIf sh 2).fail 4) := h2.symm
      rw [this] at k
      refine jni (fun vs W' => vs = [.pointer (some ⟨b, 0, none⟩)] ∧ St w0 G0 (Ky b (Xo (r.failIf sh 2) c) :: R) W') ?_ ?_
      · rintro vs W _ ⟨rfl, h⟩
        refine app1 ?_
        exact fail_spec (r := r.failIf sh 2) (c := c) h fun W h => k W h
      · refine ifb (fun hsh => ?_) fun hsh => ?_ <;> replace hsh : sh = _ := hsh
        · refine fail_spec (r := r) (c := c) h fun W h => ⟨rfl, ?_⟩
          rw [hsh]; show St w0 G0 (Ky b (Xo (r.fail 2) c) :: R) _; exact h.to
        · refine ⟨rfl, ?_⟩
          rw [hsh]; show St w0 G0 (Ky b (Xo r c) :: R) _; exact h.to
/-- a builder's length -/
theorem blen_spec {g : Nat} [i : Has l g (Bu t) R] (h : St w0 G l W) (k : RR (nV .i64 t.length) W) : CallF Tryd.prog 75 #[.pointer (some ⟨g, 0, none⟩)] W RR := by
  refine sh75_calls ?_
  unfold sh75
  obtain ⟨u, v, o, h⟩ := buOpen (b := g) (t := t) h
  refine a_nil (a_fld0 (h.load ?_))
  exact x_lenS (h.osl (v := v)) k
/-- part -/
theorem part_spec (hT : XTabs w0) [i : Has l b (Xo r c) R] (h : St w0 G0 l W) (hok : r.Ok) (hs : r.s.length ≤ 1000000) (k : ∀ W', St w0 G0 (Ky b (Xo (XRd.part decX signS r).2 c) :: R) W' → RR (strV (XRd.part decX signS r).1) W') : CallF Tryd.prog 46 #[.pointer (some ⟨b, 0, none⟩)] W RR := by
  refine sh46_calls ?_
  unfold sh46
  replace h := h.find (k := b) (X := Xo r c)
  unfold XRd.part at k
  refine see_spec (n := 0) (r := r) (c := c) h hok hs (by decide) fun W h => ?_
  refine w_eqC 38 rfl (ifd (fun hc => ?_) fun hc => ?_)
  · obtain ⟨x, hx, e⟩ := XRd.see_c (r := r) (n := 0) (by rw [hc]; decide)
    have hlt := XRd.lt_of_at hx
    rw [if_pos hc] at k
    rw [e] at h k
    dsimp only at h k
    (repeat (first | (with_reducible refine ift ?_) | (with_reducible refine iff' ?_) | (with_reducible refine a_lss ?_) | (with_reducible refine a_leq ?_) | (with_reducible refine a_gtr ?_) | (with_reducible refine a_geq ?_) | (with_reducible refine w_eql ?_) | (with_reducible refine w_neq ?_) | (with_reducible refine s_eql ?_) | (with_reducible refine s_neq ?_) | ((with_reducible refine a_add64 ?h0 ?h1 ?_); (case h0 => omega); (case h1 => omega);  skip) | ((with_reducible refine a_sub64 ?h0 ?h1 ?_); (case h0 => omega); (case h1 => omega);  skip) | ((with_reducible refine a_mul64 ?h0 ?h1 ?_); (case h0 => omega); (case h1 => omega);  skip) | (with_reducible refine a_notd ?_) | (with_reducible refine a_not ?_) | (with_reducible refine a_ext0 ?_) | (with_reducible refine a_ext1 ?_) | (with_reducible refine a_ext2 ?_) | (with_reducible refine x_len ?_) | (with_reducible refine x_lens ?_) | (with_reducible refine x_eqb ?_) | (with_reducible refine x_neb ?_) | (with_reducible refine x_nilP ?_) | (with_reducible refine x_nilPn ?_) | (with_reducible refine x_nilF ?_) | (with_reducible refine x_nilFF ?_) | (with_reducible refine w_eqlL ?_) | (with_reducible refine w_neqL ?_) | (with_reducible refine s_eqlL ?_) | (with_reducible refine ifnt ?_) | (with_reducible refine ifnf ?_) | (with_reducible refine x_eqB ?_) | (with_reducible refine x_neB ?_) | (with_reducible refine x_lssL ?_) | (with_reducible refine x_gtrL ?_) | (with_reducible refine x_geqL ?_) | (with_reducible refine s_neqL ?_) | (with_reducible refine St.load h ?_) | (with_reducible refine St.loadS h ?_) | (with_reducible refine a_fld0 ?_) | (with_reducible refine St.store h fun W h => ?_) | (with_reducible refine St.storeS h fun W h => ?_) | (with_reducible refine St.alloc h fun b W h => ?_) | (with_reducible refine St.allocS h fun b W h => ?_) | (with_reducible refine a_nil ?_) | (with_reducible refine ss_load ?_) | (with_reducible refine ss_loadS ?_) | (with_reducible refine ss_eqb ?_)))
    exact reference_spec hT (r := r.on 1) (c := c) h (by show r.at_ + 1 ≤ r.s.length; omega) hs fun W h => k W h
  · rw [if_neg hc] at k
    exact sign_spec hT (r := (r.see 0).2) (c := c) h (XRd.stp_see hok).ok (by rw [XRd.see_s]; exact hs) fun W h => k W h
/-- a part is no longer than what it takes -/
theorem part_len : (XRd.part decX signS r).1.length ≤ r.s.length + 4 := by
  have hsg : ∀ d, (signS d).1.length ≤ 4 := fun d => by
    unfold signS
    split
    · exact (utf_len _).2
    · decide
  have href : ∀ (l : List (Txt × Txt)) (rest : Txt) (sh : Bool) (q : XRd), (∀ n ∈ l, n.2.length ≤ 4) → (XRd.refGo rest l sh q).1.length ≤ 4 := by
    intro l
    induction l with
    | nil => intro rest sh q _; exact Nat.zero_le _
    | cons n l ih =>
      intro rest sh q hn
      unfold XRd.refGo
      split
      · exact hn n (by simp)
      · exact ih _ _ _ fun m hm => hn m (by simp [hm])
  unfold XRd.part
  split
  · unfold XRd.reference
    split
    · exact Nat.le_trans (hsg _) (Nat.le_add_left _ _)
    · exact Nat.le_trans (href _ _ _ _ (by decide)) (Nat.le_add_left _ _)
  · unfold XRd.sign
    split
    · exact Nat.zero_le _
    · split
      · exact Nat.zero_le _
      · rw [List.length_take, XRd.rest_len, XRd.see_s]
        omega
/-- value -/
theorem value_spec (hT : XTabs w0) [i : Has l b (Xo r c) R] (h : St w0 G0 l W) (hle : r.at_ ≤ r.s.length) (hs : r.s.length ≤ 30000) (k : ∀ W', St w0 G0 (Ky b (Xo (XRd.value decX signS r).2 c) :: R) W' → RR (strV (XRd.value decX signS r).1) W') : CallF Tryd.prog 69 #[.pointer (some ⟨b, 0, none⟩)] W RR := by
  refine sh69_calls ?_
  unfold sh69
  replace h := h.find (k := b) (X := Xo r c)
  unfold XRd.value at k
  dsimp only at k
  have hst := XRd.stp_see (n := 0) (XRd.Ok.of_le hle)
  refine see_spec (n := 0) (r := r) (c := c) h (.of_le hle) (by omega) (by decide) fun W h => ?_
  generalize hF : (r.see 0).2.failIf (decide ((r.see 0).2.e = 0 ∧ (r.see 0).1 ≠ 34 ∧ (r.see 0).1 ≠ 39)) 4 = F at k
  generalize hq : (r.see 0).1 = q at *
  have hFa : F.at_ = r.at_ := by rw [← hF, XRd.failIf_at, XRd.see_at]
  have hFs : F.s = r.s := by rw [← hF, XRd.failIf_s, XRd.see_s]
  have hF1 : (F.on 1).Ok := by
    refine ⟨by show F.at_ + 1 ≤ F.s.length + 1; rw [hFa, hFs]; omega, fun he => ?_⟩
    obtain ⟨_, e2⟩ := XRd.failIf_e (by decide) (show ((r.see 0).2.failIf _ 4).e = 0 by rw [hF]; exact he)
    rw [hF] at e2
    obtain ⟨x, hx, _⟩ := XRd.see_e (r := r) (n := 0) (by rw [← e2]; exact he)
    have := XRd.lt_of_at hx
    show F.at_ + 1 ≤ F.s.length
    rw [hFa, hFs]; omega
  refine jni (fun vs W' => vs = [.pointer (some ⟨b, 0, none⟩), byteV q] ∧ St w0 G0 (Ky b (Xo F c) :: R) W') ?_ ?_
  · rintro vs W _ ⟨rfl, h⟩
    refine app2 ?_
    refine a_nil (a_fld0 (h.load ?_))
    refine a_add64 (by omega) (by omega) ?_
    refine a_nil (a_fld0 (h.store fun W h => ?_))
    refine h.allocS fun g W h => ?_
    replace h := buNew (b := g) h
    replace h : St w0 G0 (Ky g (Bu []) :: Ky b (Xo (F.on 1) c) :: R) W := h
    generalize hQ : XRd.valGo decX signS q (r.s.length + 3) [] (F.on 1) = Q at k
    refine lpx (α := Nat × Txt × XRd) (fun _ => []) (fun A W' => A.2.2.Ok ∧ A.2.2.s = r.s ∧ A.2.1.length + A.1 * 100000 ≤ (r.s.length + 3) * 100000 ∧ (A.2.2.e = 0 → r.s.length < A.1 + A.2.2.at_) ∧ XRd.valGo decX signS q A.1 A.2.1 A.2.2 = Q ∧ St w0 G0 (Ky g (Bu A.2.1) :: Ky b (Xo A.2.2 c) :: R) W') (fun A => A.1) (r.s.length + 3, [], F.on 1) (fun _ => rfl) rfl
      ⟨hF1, hFs, by simp, fun _ => by simp only; omega, hQ, h⟩ ?_
    clear h
    rintro next ⟨f, t, z⟩ W1 hnext ⟨h1, h2, h3, h4, h5, h⟩
    simp only at h1 h2 h3 h4 h5 h
    refine app0 ?_
    have hsl : z.s.length = r.s.length := by rw [h2]
    refine a_nil (a_fld0 (h.load ?_))
    refine w_eql (ifd (fun he => ?_) fun he => ?_)
    · have h4' := h4 he
      have hzl := h1.le he
      obtain ⟨f, rfl⟩ : ∃ g, f = g + 1 := ⟨f - 1, by omega⟩
      have h3' : t.length + f * 100000 ≤ (r.s.length + 3) * 100000 := Nat.le_trans (Nat.add_le_add_left (Nat.mul_le_mul_right _ (Nat.le_succ f)) _) h3
      unfold XRd.valGo at h5
      rw [if_neg (fun hn => hn he)] at h5
      dsimp only at h5
      have hzs := XRd.stp_see (n := 0) h1
      refine see_spec (n := 0) (r := z) (c := c) h h1 (by omega) (by decide) fun W h => ?_
      refine jni (fun vs W' => ∃ (t' : Txt) (z' : XRd), vs = [.pointer (some ⟨b, 0, none⟩), byteV q, .pointer (some ⟨g, 0, none⟩)] ∧ z'.Ok ∧ z'.s = r.s ∧ t'.length + f * 100000 ≤ (r.s.length + 3) * 100000 ∧ (z'.e = 0 → r.s.length < f + z'.at_) ∧ XRd.valGo decX signS q f t' z' = Q ∧ St w0 G0 (Ky g (Bu t') :: Ky b (Xo z' c) :: R) W') ?_ ?_
      · rintro vs W _ ⟨t', z', rfl, g1, g2, g3, g4, g5, h⟩
        refine app3 ⟨rfl, rfl, rfl, ?_⟩
        exact hnext (f, t', z') W (by simp only; omega) ⟨g1, g2, g3, g4, g5, h⟩
      · refine a_nil (a_fld0 (h.load ?_))
        refine w_neq (ifd (fun hx => ?_) fun hx => ?_)
        · rw [if_pos hx] at h5
          exact ⟨t, (z.see 0).2, rfl, hzs.ok, hzs.s.trans h2, h3', fun h0 => absurd h0 hx, h5, h.to⟩
        rw [if_neg hx] at h5
        obtain ⟨x, hxs, hxe⟩ := XRd.see_e (Classical.not_not.1 hx)
        have hlt := XRd.lt_of_at hxs
        rw [hxe] at h h5 ⊢
        dsimp only at h h5 ⊢
        refine x_eqB (ifd (fun hxq => ?_) fun hxq => ?_)
        · rw [if_pos hxq] at h5
          refine a_nil (a_fld0 (h.load ?_))
          refine a_add64 (by omega) (by omega) ?_
          refine a_nil (a_fld0 (h.store fun W h => ?_))
          replace h : St w0 G0 (Ky b (Xo (z.on 1) c) :: Ky g (Bu t) :: R) W := h
          refine jni (fun vs W' => vs = [.pointer (some ⟨g, 0, none⟩)] ∧ St w0 G0 (Ky g (Bu t) :: Ky b (Xo ((z.on 1).failIf (decide (8000 < t.length)) 3) c) :: R) W') ?_ ?_
          · rintro vs W _ ⟨rfl, h⟩
            refine app1 ?_
            refine bstr_spec (b := g) (t := t) h (by omega) fun W h => ?_
            rw [← h5] at k
            exact k W h
          · refine blen_spec (g := g) (t := t) h ?_
            refine a_gtr (ifd (fun hg => ?_) fun hg => ?_)
            · refine fail_spec (r := z.on 1) (c := c) h fun W h => ⟨rfl, ?_⟩
              rw [decide_eq_true (by omega)]
              show St w0 G0 (Ky g (Bu t) :: Ky b (Xo ((z.on 1).fail 3) c) :: R) _
              exact h.to
            · refine ⟨rfl, ?_⟩
              rw [decide_eq_false (by omega)]
              show St w0 G0 (Ky g (Bu t) :: Ky b (Xo (z.on 1) c) :: R) _
              exact h.to
        rw [if_neg hxq] at h5
        refine jni (fun vs W' => ∃ (t' : Txt) (z' : XRd), vs = [.pointer (some ⟨b, 0, none⟩), byteV q, .pointer (some ⟨g, 0, none⟩)] ∧ z'.Ok ∧ z'.s = r.s ∧ t'.length + f * 100000 ≤ (r.s.length + 3) * 100000 ∧ (z'.e = 0 → r.s.length < f + z'.at_) ∧ XRd.valGo decX signS q f t' z' = Q ∧ St w0 G0 (Ky g (Bu t') :: Ky b (Xo z' c) :: R) W') (by rintro vs W _ ⟨t', z', rfl, hh⟩; exact app3 ⟨t', z', rfl, hh⟩) ?_
        refine w_eqC 60 rfl (ifd (fun h60 => ?_) fun h60 => ?_)
        · rw [if_pos h60] at h5
          refine fail_spec (r := z) (c := c) h fun W h => ?_
          exact ⟨t, z.fail 4, rfl, (XRd.stp_fail (by decide) h1.lt).ok, XRd.fail_s.trans h2, h3', fun h0 => absurd h0 (XRd.fail_ne (by decide)), h5, h.to⟩
        · rw [if_neg h60] at h5
          have hpl := part_len (r := z)
          have hps := XRd.stp_part (sgn := signS) decX_ok h1
          have hpa := XRd.adv_part (sgn := signS) decX_ok h1
          refine part_spec hT (r := z) (c := c) h h1 (by omega) fun W h => ?_
          refine wstr_spec (b := g) (t := t) h (by omega) fun W h => ?_
          have h3'' : (t ++ (XRd.part decX signS z).1).length + f * 100000 ≤ (r.s.length + 3) * 100000 := by rw [List.length_append]; omega
          refine ⟨t ++ (XRd.part decX signS z).1, (XRd.part decX signS z).2, rfl, hps.ok, hps.s.trans h2, h3'', fun h0 => ?_, h5, h⟩
          have := hpa h0
          omega
    · have : Q = ([], z) := by
        rw [← h5]
        cases f
        · rfl
        · unfold XRd.valGo; rw [if_pos he]
      rw [this] at k
      exact k W1 h.to
  · refine a_nil (a_fld0 (h.load ?_))
    refine w_eql (ifd (fun he => ?_) fun he => ?_)
    · refine w_neC 34 rfl (ifd (fun h34 => w_neC 39 rfl (ifd (fun h39 => ?_) fun h39 => ?_)) fun h34 => ?_)
      · refine fail_spec (r := (r.see 0).2) (c := c) h fun W h => ⟨rfl, ?_⟩
        rw [decide_eq_true ⟨he, h34, h39⟩] at hF
        rw [← hF]; exact h
      · refine ⟨rfl, ?_⟩
        rw [decide_eq_false (fun hx => h39 hx.2.2)] at hF
        rw [← hF]; exact h
      · refine ⟨rfl, ?_⟩
        rw [decide_eq_false (fun hx => h34 hx.2.1)] at hF
        rw [← hF]; exact h
    · refine ⟨rfl, ?_⟩
      rw [decide_eq_false (fun hx => he hx.1)] at hF
      rw [← hF]; exact h
end
end Go.Proofs.YtlflpbflpcmckaaDoor
