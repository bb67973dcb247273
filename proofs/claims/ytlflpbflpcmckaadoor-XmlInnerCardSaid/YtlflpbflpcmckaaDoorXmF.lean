/-
  XML: strconv.ParseUint's error, digits, number: what each answers.
-/
import Derived.Test.YtlflpbflpcmckaaDoorXmE
namespace Go.Proofs.YtlflpbflpcmckaaDoor
open Go Go.Ez Go.RowKit Go.Lib
set_option linter.unusedSimpArgs false
set_option linter.unusedVariables false
section
variable {w0 W W' : World} {G : Nat → Prop} {l R : List As} {RR : Value → World → Prop} {t s p : Txt} {c : XC} {x : UInt8} {B bits b n most : Nat} {r : XRd}
theorem parse_spec (hT : XTabs w0) (hB : B = 10 ∨ B = 16) (hb : (bits = 8 ∧ s.length ≤ 1) ∨ (bits = 64 ∧ s.length ≤ 7)) (h : St w0 G0 l W)
    (k1 : (XRd.parR B s).2 = true → ∀ W', St w0 G0 l W' → RR (.tuple #[nV .u64 (XRd.parR B s).1, .nilIface]) W') (k2 : (XRd.parR B s).2 = false → ∀ v u W', St w0 G0 l W' → RR (.tuple #[nV .u64 (XRd.parR B s).1, .iface u v]) W') : CallF Tryd.prog 79 #[strV s, nV .i64 B, nV .i64 bits] W RR := by
  refine sh79_calls ?_
  unfold sh79
  refine iparse_spec hB hb h fun W h => a_ext0 (a_ext1 ?_)
  cases hp : (XRd.parR B s).2
  · refine x_neNil1 (ift ?_)
    obtain ⟨ev, h3, h3'⟩ := (xtabs_at hT h).s
    have hsz : (⟨s.toArray⟩ : ByteArray).size = s.length := by show s.toArray.size = _; simp
    refine callF_of (Any.strconv_toError_syntax Tryd.laysC245 ⟨#[80, 97, 114, 115, 101, 85, 105, 110, 116]⟩ ⟨s.toArray⟩ (B : Int) (bits : Int) ev W (by rw [hsz]; omega) h3 h3') fun e W' hq => ?_
    obtain ⟨N, he, _, _, hb⟩ := hq
    exact ⟨_, he, k2 hp _ _ _ (h.ext hb)⟩
  · exact x_neNil0 (iff' (k1 hp W h))
theorem digits_spec (hT : XTabs w0) [i : Has l b (Xo r c) R] (h : St w0 G0 l W) (hle : r.at_ ≤ r.s.length) (hs : r.s.length ≤ 1000000) (hB : B = 10 ∨ B = 16) (hm : most ≤ 7) (k : ∀ W', St w0 G0 (Ky b (Xo (XRd.digits B most r).2 c) :: R) W' → RR (.int .i64 (XRd.digits B most r).1) W') : CallF Tryd.prog 77 #[.pointer (some ⟨b, 0, none⟩), nV .i64 B, nV .i64 most] W RR := by
  refine sh77_calls ?_
  unfold sh77
  replace h := h.find (k := b) (X := Xo r c)
  unfold XRd.digits at k
  dsimp only at k
  generalize hQ : XRd.digitsGo B most r.at_ (most + 2) r = Q at k
  (repeat (first | (with_reducible refine ift ?_) | (with_reducible refine iff' ?_) | (with_reducible refine a_lss ?_) | (with_reducible refine a_leq ?_) | (with_reducible refine a_gtr ?_) | (with_reducible refine a_geq ?_) | (with_reducible refine w_eql ?_) | (with_reducible refine w_neq ?_) | (with_reducible refine s_eql ?_) | (with_reducible refine s_neq ?_) | ((with_reducible refine a_add64 ?h0 ?h1 ?_); (case h0 => omega); (case h1 => omega);  skip) | ((with_reducible refine a_sub64 ?h0 ?h1 ?_); (case h0 => omega); (case h1 => omega);  skip) | ((with_reducible refine a_mul64 ?h0 ?h1 ?_); (case h0 => omega); (case h1 => omega);  skip) | (with_reducible refine a_notd ?_) | (with_reducible refine a_not ?_) | (with_reducible refine a_ext0 ?_) | (with_reducible refine a_ext1 ?_) | (with_reducible refine a_ext2 ?_) | (with_reducible refine x_len ?_) | (with_reducible refine x_lens ?_) | (with_reducible refine x_eqb ?_) | (with_reducible refine x_neb ?_) | (with_reducible refine x_nilP ?_) | (with_reducible refine x_nilPn ?_) | (with_reducible refine x_nilF ?_) | (with_reducible refine x_nilFF ?_) | (with_reducible refine w_eqlL ?_) | (with_reducible refine w_neqL ?_) | (with_reducible refine s_eqlL ?_) | (with_reducible refine ifnt ?_) | (with_reducible refine ifnf ?_) | (with_reducible refine x_eqB ?_) | (with_reducible refine x_neB ?_) | (with_reducible refine x_lssL ?_) | (with_reducible refine x_gtrL ?_) | (with_reducible refine x_geqL ?_) | (with_reducible refine s_neqL ?_) | (with_reducible refine St.load h ?_) | (with_reducible refine St.loadS h ?_) | (with_reducible refine a_fld0 ?_) | (with_reducible refine St.store h fun W h => ?_) | (with_reducible refine St.storeS h fun W h => ?_) | (with_reducible refine St.alloc h fun b W h => ?_) | (with_reducible refine St.allocS h fun b W h => ?_) | (with_reducible refine a_nil ?_) | (with_reducible refine ss_load ?_) | (with_reducible refine ss_loadS ?_) | (with_reducible refine ss_eqb ?_)))
  refine jni (fun vs W' => vs = [.pointer (some ⟨b, 0, none⟩), nV .i64 B, nV .i64 r.at_] ∧ Q.s = r.s ∧ r.at_ ≤ Q.at_ ∧ Q.at_ ≤ r.s.length ∧ Q.at_ ≤ r.at_ + most ∧ (∀ x ∈ (r.s.drop r.at_).take (Q.at_ - r.at_), (XRd.digB B x).isSome = true) ∧ St w0 G0 (Ky b (Xo Q c) :: R) W') ?_ ?_
  · rintro vs W _ ⟨rfl, q1, q2, q3, q4, q5, h⟩
    refine app3 ?_
    generalize hl : (r.s.drop r.at_).take (Q.at_ - r.at_) = ds at *
    have hdl : ds.length ≤ 7 := by rw [← hl, List.length_take, List.length_drop]; omega
    refine ⟨St w0 G0 _, h.drew, ?_⟩
    replace h := h.drew
    (repeat (first | (with_reducible refine ift ?_) | (with_reducible refine iff' ?_) | (with_reducible refine a_lss ?_) | (with_reducible refine a_leq ?_) | (with_reducible refine a_gtr ?_) | (with_reducible refine a_geq ?_) | (with_reducible refine w_eql ?_) | (with_reducible refine w_neq ?_) | (with_reducible refine s_eql ?_) | (with_reducible refine s_neq ?_) | ((with_reducible refine a_add64 ?h0 ?h1 ?_); (case h0 => omega); (case h1 => omega);  skip) | ((with_reducible refine a_sub64 ?h0 ?h1 ?_); (case h0 => omega); (case h1 => omega);  skip) | ((with_reducible refine a_mul64 ?h0 ?h1 ?_); (case h0 => omega); (case h1 => omega);  skip) | (with_reducible refine a_notd ?_) | (with_reducible refine a_not ?_) | (with_reducible refine a_ext0 ?_) | (with_reducible refine a_ext1 ?_) | (with_reducible refine a_ext2 ?_) | (with_reducible refine x_len ?_) | (with_reducible refine x_lens ?_) | (with_reducible refine x_eqb ?_) | (with_reducible refine x_neb ?_) | (with_reducible refine x_nilP ?_) | (with_reducible refine x_nilPn ?_) | (with_reducible refine x_nilF ?_) | (with_reducible refine x_nilFF ?_) | (with_reducible refine w_eqlL ?_) | (with_reducible refine w_neqL ?_) | (with_reducible refine s_eqlL ?_) | (with_reducible refine ifnt ?_) | (with_reducible refine ifnf ?_) | (with_reducible refine x_eqB ?_) | (with_reducible refine x_neB ?_) | (with_reducible refine x_lssL ?_) | (with_reducible refine x_gtrL ?_) | (with_reducible refine x_geqL ?_) | (with_reducible refine s_neqL ?_) | (with_reducible refine St.load h ?_) | (with_reducible refine St.loadS h ?_) | (with_reducible refine a_fld0 ?_) | (with_reducible refine St.store h fun W h => ?_) | (with_reducible refine St.storeS h fun W h => ?_) | (with_reducible refine St.alloc h fun b W h => ?_) | (with_reducible refine St.allocS h fun b W h => ?_) | (with_reducible refine a_nil ?_) | (with_reducible refine ss_load ?_) | (with_reducible refine ss_loadS ?_) | (with_reducible refine ss_eqb ?_)))
    refine x_cut (by omega) (by rw [q1]; omega) ?_
    rw [q1, hl]
    have hpar : XRd.parR B ds = if ds = [] then (0, false) else (XRd.numB B ds 0, true) := by
      unfold XRd.parR
      by_cases hd : ds = []
      · rw [if_neg (fun h => h.1 hd), if_pos hd]
      · rw [if_pos ⟨hd, List.all_eq_true.2 q5⟩, if_neg hd]
    have hnum : XRd.numB B ds 0 ≤ 1000000000 := by
      have h1 := XRd.numB_lt (B := B) (by omega) (n := 0) q5
      have h2 : 16 ^ ds.length ≤ 16 ^ 7 := Nat.pow_le_pow_right (by decide) hdl
      omega
    have fin : ∀ n' (q : XRd) W', n' ≤ 1000000000 → q.at_ = Q.at_ → St w0 G0 (Ky b (Xo q c) :: R) W' → (∀ W', St w0 G0 (Ky b (Xo (q.on 1) c) :: R) W' → RR (.int .i64 (n' : Nat)) W') → appN 2 (fun t0 t10 w =>
        RunA Tryd.prog (nilV t0) fun t91 =>
        RunA Tryd.prog (Instr.fieldAt 67 t91 1) fun t92 =>
        RunW Tryd.prog (Instr.loadAt 3 t92) w fun t93 =>
        RunA Tryd.prog (bin .add 3 (.tmp 93) (.const (.int .i64 1)) t93 (.int .i64 1)) fun t94 =>
        RunA Tryd.prog (nilV t0) fun t95 =>
        RunA Tryd.prog (Instr.fieldAt 67 t95 1) fun t96 =>
        RunU Tryd.prog (Instr.storeAt 3 t96 t94) w fun w =>
        RunV Tryd.prog (convert 122 3 t10) w fun t98 w =>
        RR t98 w : FnN 2) [.pointer (some ⟨b, 0, none⟩), nV .u64 n'] W' := fun n' q W' hn' hqa h kk => by
      refine app2 ?_
      (repeat (first | (with_reducible refine ift ?_) | (with_reducible refine iff' ?_) | (with_reducible refine a_lss ?_) | (with_reducible refine a_leq ?_) | (with_reducible refine a_gtr ?_) | (with_reducible refine a_geq ?_) | (with_reducible refine w_eql ?_) | (with_reducible refine w_neq ?_) | (with_reducible refine s_eql ?_) | (with_reducible refine s_neq ?_) | ((with_reducible refine a_add64 ?h0 ?h1 ?_); (case h0 => omega); (case h1 => omega);  skip) | ((with_reducible refine a_sub64 ?h0 ?h1 ?_); (case h0 => omega); (case h1 => omega);  skip) | ((with_reducible refine a_mul64 ?h0 ?h1 ?_); (case h0 => omega); (case h1 => omega);  skip) | (with_reducible refine a_notd ?_) | (with_reducible refine a_not ?_) | (with_reducible refine a_ext0 ?_) | (with_reducible refine a_ext1 ?_) | (with_reducible refine a_ext2 ?_) | (with_reducible refine x_len ?_) | (with_reducible refine x_lens ?_) | (with_reducible refine x_eqb ?_) | (with_reducible refine x_neb ?_) | (with_reducible refine x_nilP ?_) | (with_reducible refine x_nilPn ?_) | (with_reducible refine x_nilF ?_) | (with_reducible refine x_nilFF ?_) | (with_reducible refine w_eqlL ?_) | (with_reducible refine w_neqL ?_) | (with_reducible refine s_eqlL ?_) | (with_reducible refine ifnt ?_) | (with_reducible refine ifnf ?_) | (with_reducible refine x_eqB ?_) | (with_reducible refine x_neB ?_) | (with_reducible refine x_lssL ?_) | (with_reducible refine x_gtrL ?_) | (with_reducible refine x_geqL ?_) | (with_reducible refine s_neqL ?_) | (with_reducible refine St.load h ?_) | (with_reducible refine St.loadS h ?_) | (with_reducible refine a_fld0 ?_) | (with_reducible refine St.store h fun W h => ?_) | (with_reducible refine St.storeS h fun W h => ?_) | (with_reducible refine St.alloc h fun b W h => ?_) | (with_reducible refine St.allocS h fun b W h => ?_) | (with_reducible refine a_nil ?_) | (with_reducible refine ss_load ?_) | (with_reducible refine ss_loadS ?_) | (with_reducible refine ss_eqb ?_)))
      refine x_nat (k := .i64) (le_i64 (by omega)) ?_
      exact kk _ h
    refine parse_spec hT hB (.inr ⟨rfl, hdl⟩) h (fun hp W h => a_ext0 (a_ext1 ?_)) (fun hp v u W h => a_ext0 (a_ext1 ?_))
    · rw [hpar] at hp ⊢
      by_cases hd : ds = []
      · rw [if_pos hd] at hp; cases hp
      rw [if_neg hd]
      rw [decide_eq_false hd] at k
      refine jni (fun vs W' => vs = [.pointer (some ⟨b, 0, none⟩), nV .u64 (XRd.numB B ds 0)] ∧ St w0 G0 (Ky b (Xo Q c) :: R) W') (by rintro vs W' _ ⟨rfl, h⟩; exact fin _ Q W' hnum rfl h fun W' h => k W' h) ?_
      exact x_neNil0 (iff' ⟨rfl, h⟩)
    · rw [hpar] at hp ⊢
      by_cases hd : ds = []
      · rw [if_pos hd]
        rw [decide_eq_true hd] at k
        refine jni (fun vs W' => vs = [.pointer (some ⟨b, 0, none⟩), nV .u64 0] ∧ St w0 G0 (Ky b (Xo (Q.fail 4) c) :: R) W') (by rintro vs W' _ ⟨rfl, h⟩; exact fin _ _ W' (by decide) XRd.fail_at h fun W' h => by have := k W' h; rw [hd] at this; exact this) ?_
        refine x_neNil1 (ift ?_)
        exact fail_spec (r := Q) (c := c) h fun W h => ⟨rfl, h⟩
      · rw [if_neg hd] at hp; cases hp
  · refine lpx (α := Nat × XRd) (fun _ => []) (fun A W' => A.2.s = r.s ∧ r.at_ ≤ A.2.at_ ∧ A.2.at_ ≤ r.s.length ∧ A.2.at_ ≤ r.at_ + most ∧ (∀ x ∈ (r.s.drop r.at_).take (A.2.at_ - r.at_), (XRd.digB B x).isSome = true) ∧ (A.2.e = 0 → r.at_ + most < A.1 + A.2.at_) ∧ XRd.digitsGo B most r.at_ A.1 A.2 = Q ∧ St w0 G0 (Ky b (Xo A.2 c) :: R) W') (fun A => A.1) (most + 2, r) (fun _ => rfl) rfl
      ⟨rfl, Nat.le_refl _, hle, Nat.le_add_right _ _, by simp, fun _ => by simp only; omega, hQ, h⟩ ?_
    clear h
    rintro next ⟨f, q⟩ W1 hnext ⟨h1, h2, h3, h4, h5, h6, h7, h⟩
    simp only at h1 h2 h3 h4 h5 h6 h7 h
    refine app0 ?_
    have hsl : q.s.length = r.s.length := by rw [h1]
    (repeat (first | (with_reducible refine ift ?_) | (with_reducible refine iff' ?_) | (with_reducible refine a_lss ?_) | (with_reducible refine a_leq ?_) | (with_reducible refine a_gtr ?_) | (with_reducible refine a_geq ?_) | (with_reducible refine w_eql ?_) | (with_reducible refine w_neq ?_) | (with_reducible refine s_eql ?_) | (with_reducible refine s_neq ?_) | ((with_reducible refine a_add64 ?h0 ?h1 ?_); (case h0 => omega); (case h1 => omega);  skip) | ((with_reducible refine a_sub64 ?h0 ?h1 ?_); (case h0 => omega); (case h1 => omega);  skip) | ((with_reducible refine a_mul64 ?h0 ?h1 ?_); (case h0 => omega); (case h1 => omega);  skip) | (with_reducible refine a_notd ?_) | (with_reducible refine a_not ?_) | (with_reducible refine a_ext0 ?_) | (with_reducible refine a_ext1 ?_) | (with_reducible refine a_ext2 ?_) | (with_reducible refine x_len ?_) | (with_reducible refine x_lens ?_) | (with_reducible refine x_eqb ?_) | (with_reducible refine x_neb ?_) | (with_reducible refine x_nilP ?_) | (with_reducible refine x_nilPn ?_) | (with_reducible refine x_nilF ?_) | (with_reducible refine x_nilFF ?_) | (with_reducible refine w_eqlL ?_) | (with_reducible refine w_neqL ?_) | (with_reducible refine s_eqlL ?_) | (with_reducible refine ifnt ?_) | (with_reducible refine ifnf ?_) | (with_reducible refine x_eqB ?_) | (with_reducible refine x_neB ?_) | (with_reducible refine x_lssL ?_) | (with_reducible refine x_gtrL ?_) | (with_reducible refine x_geqL ?_) | (with_reducible refine s_neqL ?_) | (with_reducible refine St.load h ?_) | (with_reducible refine St.loadS h ?_) | (with_reducible refine a_fld0 ?_) | (with_reducible refine St.store h fun W h => ?_) | (with_reducible refine St.storeS h fun W h => ?_) | (with_reducible refine St.alloc h fun b W h => ?_) | (with_reducible refine St.allocS h fun b W h => ?_) | (with_reducible refine a_nil ?_) | (with_reducible refine ss_load ?_) | (with_reducible refine ss_loadS ?_) | (with_reducible refine ss_eqb ?_)))
    refine ifd (fun he => ?_) fun he => ?_
    · have h6' := h6 he
      obtain ⟨f, rfl⟩ : ∃ g, f = g + 1 := ⟨f - 1, by omega⟩
      unfold XRd.digitsGo at h7
      rw [if_pos he] at h7
      refine see_spec (n := 0) (r := q) (c := c) h (.of_le (by omega)) (by omega) (by decide) fun W h => ?_
      cases hx : q.s[q.at_]? with
      | none =>
        rw [hx] at h7
        simp only at h7
        have e0 : q.see 0 = (0, q.fail 2) := XRd.see_none hx
        rw [e0] at h ⊢
        dsimp only at h
        refine w_neC 59 rfl (ifd_pos (show (0 : UInt8) ≠ 59 by decide) ?_)
        (repeat (first | (with_reducible refine ift ?_) | (with_reducible refine iff' ?_) | (with_reducible refine a_lss ?_) | (with_reducible refine a_leq ?_) | (with_reducible refine a_gtr ?_) | (with_reducible refine a_geq ?_) | (with_reducible refine w_eql ?_) | (with_reducible refine w_neq ?_) | (with_reducible refine s_eql ?_) | (with_reducible refine s_neq ?_) | ((with_reducible refine a_add64 ?h0 ?h1 ?_); (case h0 => omega); (case h1 => omega);  skip) | ((with_reducible refine a_sub64 ?h0 ?h1 ?_); (case h0 => omega); (case h1 => omega);  skip) | ((with_reducible refine a_mul64 ?h0 ?h1 ?_); (case h0 => omega); (case h1 => omega);  skip) | (with_reducible refine a_notd ?_) | (with_reducible refine a_not ?_) | (with_reducible refine a_ext0 ?_) | (with_reducible refine a_ext1 ?_) | (with_reducible refine a_ext2 ?_) | (with_reducible refine x_len ?_) | (with_reducible refine x_lens ?_) | (with_reducible refine x_eqb ?_) | (with_reducible refine x_neb ?_) | (with_reducible refine x_nilP ?_) | (with_reducible refine x_nilPn ?_) | (with_reducible refine x_nilF ?_) | (with_reducible refine x_nilFF ?_) | (with_reducible refine w_eqlL ?_) | (with_reducible refine w_neqL ?_) | (with_reducible refine s_eqlL ?_) | (with_reducible refine ifnt ?_) | (with_reducible refine ifnf ?_) | (with_reducible refine x_eqB ?_) | (with_reducible refine x_neB ?_) | (with_reducible refine x_lssL ?_) | (with_reducible refine x_gtrL ?_) | (with_reducible refine x_geqL ?_) | (with_reducible refine s_neqL ?_) | (with_reducible refine St.load h ?_) | (with_reducible refine St.loadS h ?_) | (with_reducible refine a_fld0 ?_) | (with_reducible refine St.store h fun W h => ?_) | (with_reducible refine St.storeS h fun W h => ?_) | (with_reducible refine St.alloc h fun b W h => ?_) | (with_reducible refine St.allocS h fun b W h => ?_) | (with_reducible refine a_nil ?_) | (with_reducible refine ss_load ?_) | (with_reducible refine ss_loadS ?_) | (with_reducible refine ss_eqb ?_)))
        refine ifd_pos (XRd.fail_ne (by decide)) ?_
        rw [h7] at h
        have e1 : Q.s = r.s := by rw [← h7, XRd.fail_s, h1]
        have e2 : Q.at_ = q.at_ := by rw [← h7, XRd.fail_at]
        exact ⟨rfl, e1, by omega, by omega, by omega, by rw [e2]; exact h5, h⟩
      | some a =>
        rw [hx] at h7
        simp only at h7
        have e0 : q.see 0 = (a, q) := XRd.see_some hx
        rw [e0] at h ⊢
        dsimp only at h
        have hlt := XRd.lt_of_at (n := 0) hx
        rw [Nat.add_zero] at hlt
        refine w_neC 59 rfl (ifd (fun h59 => ?_) fun h59 => ?_)
        · rw [if_neg (show ¬ a = 59 from h59)] at h7
          (repeat (first | (with_reducible refine ift ?_) | (with_reducible refine iff' ?_) | (with_reducible refine a_lss ?_) | (with_reducible refine a_leq ?_) | (with_reducible refine a_gtr ?_) | (with_reducible refine a_geq ?_) | (with_reducible refine w_eql ?_) | (with_reducible refine w_neq ?_) | (with_reducible refine s_eql ?_) | (with_reducible refine s_neq ?_) | ((with_reducible refine a_add64 ?h0 ?h1 ?_); (case h0 => omega); (case h1 => omega);  skip) | ((with_reducible refine a_sub64 ?h0 ?h1 ?_); (case h0 => omega); (case h1 => omega);  skip) | ((with_reducible refine a_mul64 ?h0 ?h1 ?_); (case h0 => omega); (case h1 => omega);  skip) | (with_reducible refine a_notd ?_) | (with_reducible refine a_not ?_) | (with_reducible refine a_ext0 ?_) | (with_reducible refine a_ext1 ?_) | (with_reducible refine a_ext2 ?_) | (with_reducible refine x_len ?_) | (with_reducible refine x_lens ?_) | (with_reducible refine x_eqb ?_) | (with_reducible refine x_neb ?_) | (with_reducible refine x_nilP ?_) | (with_reducible refine x_nilPn ?_) | (with_reducible refine x_nilF ?_) | (with_reducible refine x_nilFF ?_) | (with_reducible refine w_eqlL ?_) | (with_reducible refine w_neqL ?_) | (with_reducible refine s_eqlL ?_) | (with_reducible refine ifnt ?_) | (with_reducible refine ifnf ?_) | (with_reducible refine x_eqB ?_) | (with_reducible refine x_neB ?_) | (with_reducible refine x_lssL ?_) | (with_reducible refine x_gtrL ?_) | (with_reducible refine x_geqL ?_) | (with_reducible refine s_neqL ?_) | (with_reducible refine St.load h ?_) | (with_reducible refine St.loadS h ?_) | (with_reducible refine a_fld0 ?_) | (with_reducible refine St.store h fun W h => ?_) | (with_reducible refine St.storeS h fun W h => ?_) | (with_reducible refine St.alloc h fun b W h => ?_) | (with_reducible refine St.allocS h fun b W h => ?_) | (with_reducible refine a_nil ?_) | (with_reducible refine ss_load ?_) | (with_reducible refine ss_loadS ?_) | (with_reducible refine ss_eqb ?_)))
          refine ifd_neg (fun hz => hz he) ?_
          refine ⟨St w0 G0 _, h.drew, ?_⟩
          replace h := h.drew
          (repeat (first | (with_reducible refine ift ?_) | (with_reducible refine iff' ?_) | (with_reducible refine a_lss ?_) | (with_reducible refine a_leq ?_) | (with_reducible refine a_gtr ?_) | (with_reducible refine a_geq ?_) | (with_reducible refine w_eql ?_) | (with_reducible refine w_neq ?_) | (with_reducible refine s_eql ?_) | (with_reducible refine s_neq ?_) | ((with_reducible refine a_add64 ?h0 ?h1 ?_); (case h0 => omega); (case h1 => omega);  skip) | ((with_reducible refine a_sub64 ?h0 ?h1 ?_); (case h0 => omega); (case h1 => omega);  skip) | ((with_reducible refine a_mul64 ?h0 ?h1 ?_); (case h0 => omega); (case h1 => omega);  skip) | (with_reducible refine a_notd ?_) | (with_reducible refine a_not ?_) | (with_reducible refine a_ext0 ?_) | (with_reducible refine a_ext1 ?_) | (with_reducible refine a_ext2 ?_) | (with_reducible refine x_len ?_) | (with_reducible refine x_lens ?_) | (with_reducible refine x_eqb ?_) | (with_reducible refine x_neb ?_) | (with_reducible refine x_nilP ?_) | (with_reducible refine x_nilPn ?_) | (with_reducible refine x_nilF ?_) | (with_reducible refine x_nilFF ?_) | (with_reducible refine w_eqlL ?_) | (with_reducible refine w_neqL ?_) | (with_reducible refine s_eqlL ?_) | (with_reducible refine ifnt ?_) | (with_reducible refine ifnf ?_) | (with_reducible refine x_eqB ?_) | (with_reducible refine x_neB ?_) | (with_reducible refine x_lssL ?_) | (with_reducible refine x_gtrL ?_) | (with_reducible refine x_geqL ?_) | (with_reducible refine s_neqL ?_) | (with_reducible refine St.load h ?_) | (with_reducible refine St.loadS h ?_) | (with_reducible refine a_fld0 ?_) | (with_reducible refine St.store h fun W h => ?_) | (with_reducible refine St.storeS h fun W h => ?_) | (with_reducible refine St.alloc h fun b W h => ?_) | (with_reducible refine St.allocS h fun b W h => ?_) | (with_reducible refine a_nil ?_) | (with_reducible refine ss_load ?_) | (with_reducible refine ss_loadS ?_) | (with_reducible refine ss_eqb ?_)))
          rw [show ((q.at_ : Int) + 1) = ((q.at_ + 1 : Nat) : Int) by push_cast; rfl]
          refine x_cut (by omega) (by omega) ?_
          have e1 : (q.s.drop q.at_).take (q.at_ + 1 - q.at_) = [a] := by
            have := XRd.rest_some hx
            unfold XRd.rest at this
            rw [this, Nat.add_sub_cancel_left]
            rfl
          rw [e1]
          have hpar : XRd.parR B [a] = if (XRd.digB B a).isSome then (XRd.numB B [a] 0, true) else (0, false) := by
            unfold XRd.parR
            by_cases hd : (XRd.digB B a).isSome = true
            · rw [if_pos ⟨by simp, by simp [hd]⟩, if_pos hd]
            · rw [if_neg (by rintro ⟨_, h⟩; simp at h; exact hd h), if_neg hd]
          have bad : ((XRd.digB B a).isNone || decide (most ≤ q.at_ - r.at_)) = true → ∀ W, St w0 G0 (Ky b (Xo q c) :: R) W → CallF Tryd.prog 26 #[.pointer (some ⟨b, 0, none⟩), .int .i64 4] W fun _ W => [Value.pointer (some ⟨b, 0, none⟩), nV .i64 B, nV .i64 r.at_] = [.pointer (some ⟨b, 0, none⟩), nV .i64 B, nV .i64 r.at_] ∧ Q.s = r.s ∧ r.at_ ≤ Q.at_ ∧ Q.at_ ≤ r.s.length ∧ Q.at_ ≤ r.at_ + most ∧ (∀ x ∈ (r.s.drop r.at_).take (Q.at_ - r.at_), (XRd.digB B x).isSome = true) ∧ St w0 G0 (Ky b (Xo Q c) :: R) W := fun hb W h => by
            rw [if_pos hb] at h7
            have e1 : Q.s = r.s := by rw [← h7, XRd.fail_s, h1]
            have e2 : Q.at_ = q.at_ := by rw [← h7, XRd.fail_at]
            refine fail_spec (r := q) (c := c) h fun W h => ?_
            rw [h7] at h
            exact ⟨rfl, e1, by omega, by omega, by omega, by rw [e2]; exact h5, h⟩
          refine parse_spec hT hB (.inl ⟨rfl, by simp⟩) h (fun hp W h => a_ext0 (a_ext1 ?_)) (fun hp v u W h => a_ext0 (a_ext1 ?_))
          · rw [hpar] at hp
            have hd : (XRd.digB B a).isSome = true := Classical.byContradiction fun hn => by rw [if_neg hn] at hp; cases hp
            refine x_neNil0 (iff' ?_)
            (repeat (first | (with_reducible refine ift ?_) | (with_reducible refine iff' ?_) | (with_reducible refine a_lss ?_) | (with_reducible refine a_leq ?_) | (with_reducible refine a_gtr ?_) | (with_reducible refine a_geq ?_) | (with_reducible refine w_eql ?_) | (with_reducible refine w_neq ?_) | (with_reducible refine s_eql ?_) | (with_reducible refine s_neq ?_) | ((with_reducible refine a_add64 ?h0 ?h1 ?_); (case h0 => omega); (case h1 => omega);  skip) | ((with_reducible refine a_sub64 ?h0 ?h1 ?_); (case h0 => omega); (case h1 => omega);  skip) | ((with_reducible refine a_mul64 ?h0 ?h1 ?_); (case h0 => omega); (case h1 => omega);  skip) | (with_reducible refine a_notd ?_) | (with_reducible refine a_not ?_) | (with_reducible refine a_ext0 ?_) | (with_reducible refine a_ext1 ?_) | (with_reducible refine a_ext2 ?_) | (with_reducible refine x_len ?_) | (with_reducible refine x_lens ?_) | (with_reducible refine x_eqb ?_) | (with_reducible refine x_neb ?_) | (with_reducible refine x_nilP ?_) | (with_reducible refine x_nilPn ?_) | (with_reducible refine x_nilF ?_) | (with_reducible refine x_nilFF ?_) | (with_reducible refine w_eqlL ?_) | (with_reducible refine w_neqL ?_) | (with_reducible refine s_eqlL ?_) | (with_reducible refine ifnt ?_) | (with_reducible refine ifnf ?_) | (with_reducible refine x_eqB ?_) | (with_reducible refine x_neB ?_) | (with_reducible refine x_lssL ?_) | (with_reducible refine x_gtrL ?_) | (with_reducible refine x_geqL ?_) | (with_reducible refine s_neqL ?_) | (with_reducible refine St.load h ?_) | (with_reducible refine St.loadS h ?_) | (with_reducible refine a_fld0 ?_) | (with_reducible refine St.store h fun W h => ?_) | (with_reducible refine St.storeS h fun W h => ?_) | (with_reducible refine St.alloc h fun b W h => ?_) | (with_reducible refine St.allocS h fun b W h => ?_) | (with_reducible refine a_nil ?_) | (with_reducible refine ss_load ?_) | (with_reducible refine ss_loadS ?_) | (with_reducible refine ss_eqb ?_)))
            refine ifd (fun hmo => ?_) fun hmo => ?_
            · exact bad (by rw [decide_eq_true (by omega)]; simp) _ h
            · have hno : ((XRd.digB B a).isNone || decide (most ≤ q.at_ - r.at_)) = false := by
                rw [decide_eq_false (by omega)]
                cases hz : XRd.digB B a
                · rw [hz] at hd; cases hd
                · rfl
              rw [hno] at h7
              simp only [Bool.false_eq_true, if_false] at h7
              (repeat (first | (with_reducible refine ift ?_) | (with_reducible refine iff' ?_) | (with_reducible refine a_lss ?_) | (with_reducible refine a_leq ?_) | (with_reducible refine a_gtr ?_) | (with_reducible refine a_geq ?_) | (with_reducible refine w_eql ?_) | (with_reducible refine w_neq ?_) | (with_reducible refine s_eql ?_) | (with_reducible refine s_neq ?_) | ((with_reducible refine a_add64 ?h0 ?h1 ?_); (case h0 => omega); (case h1 => omega);  skip) | ((with_reducible refine a_sub64 ?h0 ?h1 ?_); (case h0 => omega); (case h1 => omega);  skip) | ((with_reducible refine a_mul64 ?h0 ?h1 ?_); (case h0 => omega); (case h1 => omega);  skip) | (with_reducible refine a_notd ?_) | (with_reducible refine a_not ?_) | (with_reducible refine a_ext0 ?_) | (with_reducible refine a_ext1 ?_) | (with_reducible refine a_ext2 ?_) | (with_reducible refine x_len ?_) | (with_reducible refine x_lens ?_) | (with_reducible refine x_eqb ?_) | (with_reducible refine x_neb ?_) | (with_reducible refine x_nilP ?_) | (with_reducible refine x_nilPn ?_) | (with_reducible refine x_nilF ?_) | (with_reducible refine x_nilFF ?_) | (with_reducible refine w_eqlL ?_) | (with_reducible refine w_neqL ?_) | (with_reducible refine s_eqlL ?_) | (with_reducible refine ifnt ?_) | (with_reducible refine ifnf ?_) | (with_reducible refine x_eqB ?_) | (with_reducible refine x_neB ?_) | (with_reducible refine x_lssL ?_) | (with_reducible refine x_gtrL ?_) | (with_reducible refine x_geqL ?_) | (with_reducible refine s_neqL ?_) | (with_reducible refine St.load h ?_) | (with_reducible refine St.loadS h ?_) | (with_reducible refine a_fld0 ?_) | (with_reducible refine St.store h fun W h => ?_) | (with_reducible refine St.storeS h fun W h => ?_) | (with_reducible refine St.alloc h fun b W h => ?_) | (with_reducible refine St.allocS h fun b W h => ?_) | (with_reducible refine a_nil ?_) | (with_reducible refine ss_load ?_) | (with_reducible refine ss_loadS ?_) | (with_reducible refine ss_eqb ?_)))
              refine ⟨rfl, rfl, rfl, rfl, hnext (f, q.on 1) _ (by simp only; omega) ⟨h1, by show r.at_ ≤ q.at_ + 1; omega, by show q.at_ + 1 ≤ _; omega, by show q.at_ + 1 ≤ _; omega, fun x hx' => ?_, fun _ => by show r.at_ + most < f + (q.at_ + 1); omega, h7, h⟩⟩
              have e3 : (r.s.drop r.at_).take ((q.on 1).at_ - r.at_) = (r.s.drop r.at_).take (q.at_ - r.at_) ++ [a] := by
                show (r.s.drop r.at_).take (q.at_ + 1 - r.at_) = _
                rw [show q.at_ + 1 - r.at_ = (q.at_ - r.at_) + 1 by omega, List.take_add_one, List.getElem?_drop, show r.at_ + (q.at_ - r.at_) = q.at_ by omega, ← h1, hx]
                rfl
              rw [e3] at hx'
              rcases List.mem_append.1 hx' with hx' | hx'
              · exact h5 x hx'
              · rw [List.mem_singleton.1 hx']; exact hd
          · rw [hpar] at hp
            have hd : (XRd.digB B a).isNone = true := by
              cases hz : XRd.digB B a
              · rfl
              · rw [hz] at hp; cases hp
            refine x_neNil1 (ift ?_)
            exact bad (by rw [hd]; rfl) _ h
        · have h59' : a = 59 := Classical.not_not.1 h59
          rw [if_pos h59'] at h7
          rw [h7] at h
          subst h7
          exact ⟨rfl, h1, h2, by omega, h4, h5, h⟩
    · have : q = Q := by
        rw [← h7]
        cases f
        · rfl
        · unfold XRd.digitsGo; rw [if_neg he]
      subst this
      exact ⟨rfl, h1, h2, h3, h4, h5, h⟩
/-- number -/
theorem number_spec (hT : XTabs w0) [i : Has l b (Xo r c) R] (h : St w0 G0 l W) (hle : r.at_ ≤ r.s.length) (hs : r.s.length ≤ 1000000) (k : ∀ W', St w0 G0 (Ky b (Xo (XRd.number signS r).2 c) :: R) W' → RR (strV (XRd.number signS r).1) W') : CallF Tryd.prog 71 #[.pointer (some ⟨b, 0, none⟩)] W RR := by
  refine sh71_calls ?_
  unfold sh71
  replace h := h.find (k := b) (X := Xo r c)
  unfold XRd.number at k
  dsimp only at k
  have hQs : (if (r.see 0).1 = 120 then XRd.digits 16 6 ((r.see 0).2.on 1) else XRd.digits 10 7 (r.see 0).2).2.Ok := by
    split
    · rename_i hc
      obtain ⟨x, hx, e⟩ := XRd.see_c (r := r) (n := 0) (by rw [hc]; decide)
      have := XRd.lt_of_at hx
      rw [e]
      exact (XRd.stp_digits (r := r.on 1) (by show r.at_ + 1 ≤ r.s.length; omega)).ok
    · exact (XRd.stp_digits (by rw [XRd.see_at, XRd.see_s]; exact hle)).ok
  refine jni (fun vs W' => ∃ (B most : Nat) (q : XRd), vs = [.pointer (some ⟨b, 0, none⟩), nV .i64 B, nV .i64 most] ∧ (B = 10 ∨ B = 16) ∧ most ≤ 7 ∧ q.at_ ≤ q.s.length ∧ q.s.length ≤ 1000000 ∧ (if (r.see 0).1 = 120 then XRd.digits 16 6 ((r.see 0).2.on 1) else XRd.digits 10 7 (r.see 0).2) = XRd.digits B most q ∧ St w0 G0 (Ky b (Xo q c) :: R) W') ?_ ?_
  · rintro vs W _ ⟨B, most, q, rfl, hB, hm, hq1, hq2, he, h⟩
    rw [he] at k
    refine app3 ?_
    refine digits_spec hT (r := q) (c := c) h hq1 hq2 hB hm fun W h => ?_
    generalize XRd.digits B most q = D at *
    obtain ⟨d, D⟩ := D
    refine tsign_spec (a_ext0 (a_ext1 ?_))
    refine jni (fun vs W' => vs = [strV (signS d).1] ∧ St w0 G0 (Ky b (Xo (D.failIf (!(signS d).2 || !XRd.good d) 4) c) :: R) W') (by rintro vs W' _ ⟨rfl, h⟩; exact app1 (k W' h)) ?_
    refine a_not (ifnb (fun hg => ?_) fun hg => ?_)
    · refine fail_spec (r := D) (c := c) h fun W h => ⟨rfl, ?_⟩
      rw [hg]; exact h
    · have hr : (0 ≤ d ∧ d < 55296) ∨ (57343 < d ∧ d ≤ 1114111) := Classical.byContradiction fun hn => by
        unfold signS at hg
        rw [if_neg hn] at hg
        cases hg
      obtain ⟨d, rfl⟩ := Int.eq_ofNat_of_zero_le (show 0 ≤ d by omega)
      refine x_nat (k := .i32) (le_i32 (by omega)) ?_
      refine good_spec (a_not (ifnb (fun hgd => ?_) fun hgd => ?_))
      · refine fail_spec (r := D) (c := c) h fun W h => ⟨rfl, ?_⟩
        rw [hg, hgd]; exact h
      · refine ⟨rfl, ?_⟩
        rw [hg, hgd]; exact h
  · refine see_spec (n := 0) (r := r) (c := c) h (.of_le hle) hs (by decide) fun W h => ?_
    refine w_eqC 120 rfl (ifd (fun hc => ?_) fun hc => ?_)
    · obtain ⟨x, hx, e⟩ := XRd.see_c (r := r) (n := 0) (by rw [hc]; decide)
      have hlt := XRd.lt_of_at hx
      rw [if_pos hc]
      rw [e] at h ⊢
      dsimp only at h ⊢
      (repeat (first | (with_reducible refine ift ?_) | (with_reducible refine iff' ?_) | (with_reducible refine a_lss ?_) | (with_reducible refine a_leq ?_) | (with_reducible refine a_gtr ?_) | (with_reducible refine a_geq ?_) | (with_reducible refine w_eql ?_) | (with_reducible refine w_neq ?_) | (with_reducible refine s_eql ?_) | (with_reducible refine s_neq ?_) | ((with_reducible refine a_add64 ?h0 ?h1 ?_); (case h0 => omega); (case h1 => omega);  skip) | ((with_reducible refine a_sub64 ?h0 ?h1 ?_); (case h0 => omega); (case h1 => omega);  skip) | ((with_reducible refine a_mul64 ?h0 ?h1 ?_); (case h0 => omega); (case h1 => omega);  skip) | (with_reducible refine a_notd ?_) | (with_reducible refine a_not ?_) | (with_reducible refine a_ext0 ?_) | (with_reducible refine a_ext1 ?_) | (with_reducible refine a_ext2 ?_) | (with_reducible refine x_len ?_) | (with_reducible refine x_lens ?_) | (with_reducible refine x_eqb ?_) | (with_reducible refine x_neb ?_) | (with_reducible refine x_nilP ?_) | (with_reducible refine x_nilPn ?_) | (with_reducible refine x_nilF ?_) | (with_reducible refine x_nilFF ?_) | (with_reducible refine w_eqlL ?_) | (with_reducible refine w_neqL ?_) | (with_reducible refine s_eqlL ?_) | (with_reducible refine ifnt ?_) | (with_reducible refine ifnf ?_) | (with_reducible refine x_eqB ?_) | (with_reducible refine x_neB ?_) | (with_reducible refine x_lssL ?_) | (with_reducible refine x_gtrL ?_) | (with_reducible refine x_geqL ?_) | (with_reducible refine s_neqL ?_) | (with_reducible refine St.load h ?_) | (with_reducible refine St.loadS h ?_) | (with_reducible refine a_fld0 ?_) | (with_reducible refine St.store h fun W h => ?_) | (with_reducible refine St.storeS h fun W h => ?_) | (with_reducible refine St.alloc h fun b W h => ?_) | (with_reducible refine St.allocS h fun b W h => ?_) | (with_reducible refine a_nil ?_) | (with_reducible refine ss_load ?_) | (with_reducible refine ss_loadS ?_) | (with_reducible refine ss_eqb ?_)))
      exact ⟨16, 6, r.on 1, rfl, .inr rfl, by decide, by show r.at_ + 1 ≤ r.s.length; omega, hs, rfl, h⟩
    · rw [if_neg hc]
      exact ⟨10, 7, (r.see 0).2, rfl, .inl rfl, by decide, by rw [XRd.see_at, XRd.see_s]; exact hle, by rw [XRd.see_s]; exact hs, rfl, h⟩
end
end Go.Proofs.YtlflpbflpcmckaaDoor
