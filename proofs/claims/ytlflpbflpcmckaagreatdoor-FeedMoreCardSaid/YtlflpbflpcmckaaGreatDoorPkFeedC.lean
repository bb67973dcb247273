/-
  Parts of the proofs of FeedOnce, FeedKinds, FeedMore.
-/
import Derived.Test.YtlflpbflpcmckaaGreatDoorPkFeedB
import Derived.Lib.ConvBytes
import Derived.Lib.MapLaws
import Derived.Lib.ValidLaws
import Derived.Lib.ValidAsc
import Derived.Lib.RuneCountTail
import Derived.Lib.RuneBytes
import Derived.Laws.Runes
import Derived.Laws.StructEq
import Derived.Maps.RangeRun
namespace Go.Ez.XRd
open Go Go.Ez
variable {r : XRd} {x : UInt8} {f : UInt8 → Bool}
theorem rest_some (h : r.s[r.at_]? = some x) : r.rest = x :: (r.on 1).rest := by
  unfold rest
  exact (List.drop_eq_getElem_cons (List.getElem?_eq_some_iff.1 h).1).trans (by rw [(List.getElem?_eq_some_iff.1 h).2]; rfl)
theorem rest_none (h : r.s.length ≤ r.at_) : r.rest = [] := by
  unfold rest
  exact List.drop_eq_nil_of_le h
theorem tw_yes (h : r.s[r.at_]? = some x) (hf : f x = true) : (r.rest.takeWhile f).length = 1 + ((r.on 1).rest.takeWhile f).length := by
  rw [rest_some h, List.takeWhile_cons, hf]
  simp; omega
theorem tw_no (h : r.s[r.at_]? = some x) (hf : f x = false) : (r.rest.takeWhile f).length = 0 := by
  rw [rest_some h, List.takeWhile_cons, hf]
  simp
theorem tw_end (h : r.s.length ≤ r.at_) : (r.rest.takeWhile f).length = 0 := by rw [rest_none h]; rfl
theorem tw_take : r.rest.takeWhile f = (r.s.drop r.at_).take (r.rest.takeWhile f).length := by
  have := List.takeWhile_prefix f (l := r.rest)
  rw [List.prefix_iff_eq_take] at this
  exact this
end Go.Ez.XRd
namespace Go.Proofs.YtlflpbflpcmckaaGreatDoor
open Go Go.Ez Go.RowKit Go.Lib
set_option linter.unusedSimpArgs false
set_option linter.unusedVariables false
section
variable {w0 W W' : World} {G : Nat → Prop} {l R : List As} {RR : Value → World → Prop} {t s p : Txt} {c : XC} {x : UInt8} {b n : Nat} {r : XRd}
/-- blanks -/
theorem blanks_spec [i : Has l b (Xo r c) R] (h : St w0 G l W) (hok : r.Ok) (hs : r.s.length ≤ 1000000) (k : ∀ W', St w0 G (Ky b (Xo r.blanks.2 c) :: R) W' → RR (.bool r.blanks.1) W') : CallF Tryz.prog 73 #[.pointer (some ⟨b, 0, none⟩)] W RR := by
  refine sh73_calls ?_
  unfold sh73
  replace h := h.find (k := b) (X := Xo r c)
  have hlt := hok.lt
  unfold XRd.blanks at k
  generalize hN : (r.rest.takeWhile XRd.isBl).length = N at k
  have hNl := XRd.tw_le XRd.isBl r.rest
  rw [hN, XRd.rest_len] at hNl
  (repeat (first | (with_reducible refine ift ?_) | (with_reducible refine iff' ?_) | (with_reducible refine a_lss ?_) | (with_reducible refine a_leq ?_) | (with_reducible refine a_gtr ?_) | (with_reducible refine a_geq ?_) | (with_reducible refine w_eql ?_) | (with_reducible refine w_neq ?_) | (with_reducible refine s_eql ?_) | (with_reducible refine s_neq ?_) | ((with_reducible refine a_add64 ?h0 ?h1 ?_); (case h0 => omega); (case h1 => omega);  skip) | ((with_reducible refine a_sub64 ?h0 ?h1 ?_); (case h0 => omega); (case h1 => omega);  skip) | ((with_reducible refine a_mul64 ?h0 ?h1 ?_); (case h0 => omega); (case h1 => omega);  skip) | (with_reducible refine a_notd ?_) | (with_reducible refine a_not ?_) | (with_reducible refine a_ext0 ?_) | (with_reducible refine a_ext1 ?_) | (with_reducible refine a_ext2 ?_) | (with_reducible refine x_len ?_) | (with_reducible refine x_lens ?_) | (with_reducible refine x_eqb ?_) | (with_reducible refine x_neb ?_) | (with_reducible refine x_nilP ?_) | (with_reducible refine x_nilPn ?_) | (with_reducible refine x_nilF ?_) | (with_reducible refine x_nilFF ?_) | (with_reducible refine w_eqlL ?_) | (with_reducible refine w_neqL ?_) | (with_reducible refine s_eqlL ?_) | (with_reducible refine ifnt ?_) | (with_reducible refine ifnf ?_) | (with_reducible refine x_eqB ?_) | (with_reducible refine x_neB ?_) | (with_reducible refine x_lssL ?_) | (with_reducible refine x_gtrL ?_) | (with_reducible refine x_geqL ?_) | (with_reducible refine s_neqL ?_) | (with_reducible refine St.load h ?_) | (with_reducible refine St.loadS h ?_) | (with_reducible refine a_fld0 ?_) | (with_reducible refine St.store h fun W h => ?_) | (with_reducible refine St.storeS h fun W h => ?_) | (with_reducible refine St.alloc h fun b W h => ?_) | (with_reducible refine St.allocS h fun b W h => ?_) | (with_reducible refine a_nil ?_) | (with_reducible refine ss_load ?_) | (with_reducible refine ss_loadS ?_) | (with_reducible refine ss_eqb ?_)))
  refine jni (fun vs W' => vs = [.pointer (some ⟨b, 0, none⟩), nV .i64 r.at_] ∧ St w0 G (Ky b (Xo (r.on N) c) :: R) W') ?_ ?_
  · rintro vs W _ ⟨rfl, h⟩
    refine app2 ?_
    (repeat (first | (with_reducible refine ift ?_) | (with_reducible refine iff' ?_) | (with_reducible refine a_lss ?_) | (with_reducible refine a_leq ?_) | (with_reducible refine a_gtr ?_) | (with_reducible refine a_geq ?_) | (with_reducible refine w_eql ?_) | (with_reducible refine w_neq ?_) | (with_reducible refine s_eql ?_) | (with_reducible refine s_neq ?_) | ((with_reducible refine a_add64 ?h0 ?h1 ?_); (case h0 => omega); (case h1 => omega);  skip) | ((with_reducible refine a_sub64 ?h0 ?h1 ?_); (case h0 => omega); (case h1 => omega);  skip) | ((with_reducible refine a_mul64 ?h0 ?h1 ?_); (case h0 => omega); (case h1 => omega);  skip) | (with_reducible refine a_notd ?_) | (with_reducible refine a_not ?_) | (with_reducible refine a_ext0 ?_) | (with_reducible refine a_ext1 ?_) | (with_reducible refine a_ext2 ?_) | (with_reducible refine x_len ?_) | (with_reducible refine x_lens ?_) | (with_reducible refine x_eqb ?_) | (with_reducible refine x_neb ?_) | (with_reducible refine x_nilP ?_) | (with_reducible refine x_nilPn ?_) | (with_reducible refine x_nilF ?_) | (with_reducible refine x_nilFF ?_) | (with_reducible refine w_eqlL ?_) | (with_reducible refine w_neqL ?_) | (with_reducible refine s_eqlL ?_) | (with_reducible refine ifnt ?_) | (with_reducible refine ifnf ?_) | (with_reducible refine x_eqB ?_) | (with_reducible refine x_neB ?_) | (with_reducible refine x_lssL ?_) | (with_reducible refine x_gtrL ?_) | (with_reducible refine x_geqL ?_) | (with_reducible refine s_neqL ?_) | (with_reducible refine St.load h ?_) | (with_reducible refine St.loadS h ?_) | (with_reducible refine a_fld0 ?_) | (with_reducible refine St.store h fun W h => ?_) | (with_reducible refine St.storeS h fun W h => ?_) | (with_reducible refine St.alloc h fun b W h => ?_) | (with_reducible refine St.allocS h fun b W h => ?_) | (with_reducible refine a_nil ?_) | (with_reducible refine ss_load ?_) | (with_reducible refine ss_loadS ?_) | (with_reducible refine ss_eqb ?_)))
    have : decide ((((r.on N).at_ : Nat) : Int) > (r.at_ : Int)) = decide (0 < N) := decide_eq_decide.2 (by show ((r.at_ + N : Nat) : Int) > _ ↔ _; omega)
    have e := k W h
    rw [← this] at e
    exact e
  · refine lpx (α := Nat) (fun j => []) (fun j W' => j + ((r.on j).rest.takeWhile XRd.isBl).length = N ∧ St w0 G (Ky b (Xo (r.on j) c) :: R) W') (fun j => N - j) 0 (fun _ => rfl) rfl ⟨by rw [Nat.zero_add]; exact hN, h⟩ ?_
    clear h
    rintro next j W1 hnext ⟨h1, h⟩
    refine app0 ?_
    have hat : (r.on j).at_ = r.at_ + j := rfl
    have hss : (r.on j).s = r.s := rfl
    have hon : (r.on j).on 1 = r.on (j + 1) := rfl
    generalize hq : r.on j = q at *
    refine ⟨St w0 G _, h.drew, ?_⟩
    replace h := h.drew
    (repeat (first | (with_reducible refine ift ?_) | (with_reducible refine iff' ?_) | (with_reducible refine a_lss ?_) | (with_reducible refine a_leq ?_) | (with_reducible refine a_gtr ?_) | (with_reducible refine a_geq ?_) | (with_reducible refine w_eql ?_) | (with_reducible refine w_neq ?_) | (with_reducible refine s_eql ?_) | (with_reducible refine s_neq ?_) | ((with_reducible refine a_add64 ?h0 ?h1 ?_); (case h0 => omega); (case h1 => omega);  skip) | ((with_reducible refine a_sub64 ?h0 ?h1 ?_); (case h0 => omega); (case h1 => omega);  skip) | ((with_reducible refine a_mul64 ?h0 ?h1 ?_); (case h0 => omega); (case h1 => omega);  skip) | (with_reducible refine a_notd ?_) | (with_reducible refine a_not ?_) | (with_reducible refine a_ext0 ?_) | (with_reducible refine a_ext1 ?_) | (with_reducible refine a_ext2 ?_) | (with_reducible refine x_len ?_) | (with_reducible refine x_lens ?_) | (with_reducible refine x_eqb ?_) | (with_reducible refine x_neb ?_) | (with_reducible refine x_nilP ?_) | (with_reducible refine x_nilPn ?_) | (with_reducible refine x_nilF ?_) | (with_reducible refine x_nilFF ?_) | (with_reducible refine w_eqlL ?_) | (with_reducible refine w_neqL ?_) | (with_reducible refine s_eqlL ?_) | (with_reducible refine ifnt ?_) | (with_reducible refine ifnf ?_) | (with_reducible refine x_eqB ?_) | (with_reducible refine x_neB ?_) | (with_reducible refine x_lssL ?_) | (with_reducible refine x_gtrL ?_) | (with_reducible refine x_geqL ?_) | (with_reducible refine s_neqL ?_) | (with_reducible refine St.load h ?_) | (with_reducible refine St.loadS h ?_) | (with_reducible refine a_fld0 ?_) | (with_reducible refine St.store h fun W h => ?_) | (with_reducible refine St.storeS h fun W h => ?_) | (with_reducible refine St.alloc h fun b W h => ?_) | (with_reducible refine St.allocS h fun b W h => ?_) | (with_reducible refine a_nil ?_) | (with_reducible refine ss_load ?_) | (with_reducible refine ss_loadS ?_) | (with_reducible refine ss_eqb ?_)))
    refine ifd (fun hc => ?_) fun hc => ?_
    · have hx : q.s[q.at_]? = some q.s[q.at_] := List.getElem?_eq_getElem (by omega)
      generalize q.s[q.at_] = x at hx
      (repeat (first | (with_reducible refine ift ?_) | (with_reducible refine iff' ?_) | (with_reducible refine a_lss ?_) | (with_reducible refine a_leq ?_) | (with_reducible refine a_gtr ?_) | (with_reducible refine a_geq ?_) | (with_reducible refine w_eql ?_) | (with_reducible refine w_neq ?_) | (with_reducible refine s_eql ?_) | (with_reducible refine s_neq ?_) | ((with_reducible refine a_add64 ?h0 ?h1 ?_); (case h0 => omega); (case h1 => omega);  skip) | ((with_reducible refine a_sub64 ?h0 ?h1 ?_); (case h0 => omega); (case h1 => omega);  skip) | ((with_reducible refine a_mul64 ?h0 ?h1 ?_); (case h0 => omega); (case h1 => omega);  skip) | (with_reducible refine a_notd ?_) | (with_reducible refine a_not ?_) | (with_reducible refine a_ext0 ?_) | (with_reducible refine a_ext1 ?_) | (with_reducible refine a_ext2 ?_) | (with_reducible refine x_len ?_) | (with_reducible refine x_lens ?_) | (with_reducible refine x_eqb ?_) | (with_reducible refine x_neb ?_) | (with_reducible refine x_nilP ?_) | (with_reducible refine x_nilPn ?_) | (with_reducible refine x_nilF ?_) | (with_reducible refine x_nilFF ?_) | (with_reducible refine w_eqlL ?_) | (with_reducible refine w_neqL ?_) | (with_reducible refine s_eqlL ?_) | (with_reducible refine ifnt ?_) | (with_reducible refine ifnf ?_) | (with_reducible refine x_eqB ?_) | (with_reducible refine x_neB ?_) | (with_reducible refine x_lssL ?_) | (with_reducible refine x_gtrL ?_) | (with_reducible refine x_geqL ?_) | (with_reducible refine s_neqL ?_) | (with_reducible refine St.load h ?_) | (with_reducible refine St.loadS h ?_) | (with_reducible refine a_fld0 ?_) | (with_reducible refine St.store h fun W h => ?_) | (with_reducible refine St.storeS h fun W h => ?_) | (with_reducible refine St.alloc h fun b W h => ?_) | (with_reducible refine St.allocS h fun b W h => ?_) | (with_reducible refine a_nil ?_) | (with_reducible refine ss_load ?_) | (with_reducible refine ss_loadS ?_) | (with_reducible refine ss_eqb ?_)))
      refine x_index hx ?_
      refine idxByte_spec (t := [32, 9, 10, 13]) ⟨h, ?_⟩
      refine a_geq (ifd (fun hb => ?_) fun hb => ?_)
      · have hb' := bl_idx.1 hb
        have e1 := XRd.tw_yes (f := XRd.isBl) hx hb'
        rw [hss] at hc
        (repeat (first | (with_reducible refine ift ?_) | (with_reducible refine iff' ?_) | (with_reducible refine a_lss ?_) | (with_reducible refine a_leq ?_) | (with_reducible refine a_gtr ?_) | (with_reducible refine a_geq ?_) | (with_reducible refine w_eql ?_) | (with_reducible refine w_neq ?_) | (with_reducible refine s_eql ?_) | (with_reducible refine s_neq ?_) | ((with_reducible refine a_add64 ?h0 ?h1 ?_); (case h0 => omega); (case h1 => omega);  skip) | ((with_reducible refine a_sub64 ?h0 ?h1 ?_); (case h0 => omega); (case h1 => omega);  skip) | ((with_reducible refine a_mul64 ?h0 ?h1 ?_); (case h0 => omega); (case h1 => omega);  skip) | (with_reducible refine a_notd ?_) | (with_reducible refine a_not ?_) | (with_reducible refine a_ext0 ?_) | (with_reducible refine a_ext1 ?_) | (with_reducible refine a_ext2 ?_) | (with_reducible refine x_len ?_) | (with_reducible refine x_lens ?_) | (with_reducible refine x_eqb ?_) | (with_reducible refine x_neb ?_) | (with_reducible refine x_nilP ?_) | (with_reducible refine x_nilPn ?_) | (with_reducible refine x_nilF ?_) | (with_reducible refine x_nilFF ?_) | (with_reducible refine w_eqlL ?_) | (with_reducible refine w_neqL ?_) | (with_reducible refine s_eqlL ?_) | (with_reducible refine ifnt ?_) | (with_reducible refine ifnf ?_) | (with_reducible refine x_eqB ?_) | (with_reducible refine x_neB ?_) | (with_reducible refine x_lssL ?_) | (with_reducible refine x_gtrL ?_) | (with_reducible refine x_geqL ?_) | (with_reducible refine s_neqL ?_) | (with_reducible refine St.load h ?_) | (with_reducible refine St.loadS h ?_) | (with_reducible refine a_fld0 ?_) | (with_reducible refine St.store h fun W h => ?_) | (with_reducible refine St.storeS h fun W h => ?_) | (with_reducible refine St.alloc h fun b W h => ?_) | (with_reducible refine St.allocS h fun b W h => ?_) | (with_reducible refine a_nil ?_) | (with_reducible refine ss_load ?_) | (with_reducible refine ss_loadS ?_) | (with_reducible refine ss_eqb ?_)))
        refine ⟨rfl, rfl, hnext (j + 1) _ (by omega) ⟨by rw [← hon]; omega, ?_⟩⟩
        rw [← hon]
        exact h
      · have hb' : XRd.isBl x = false := by
          cases hz : XRd.isBl x
          · rfl
          · exact absurd (bl_idx.2 hz) hb
        have e1 := XRd.tw_no (f := XRd.isBl) hx hb'
        have hj : j = N := by omega
        subst hj
        refine ⟨rfl, ?_⟩
        rw [hq]
        exact h
    · have e1 := XRd.tw_end (f := XRd.isBl) (r := q) (by omega)
      have hj : j = N := by omega
      subst hj
      refine ⟨rfl, ?_⟩
      rw [hq]
      exact h
/-- sign -/
theorem sign_spec (hT : XTabs w0) [i : Has l b (Xo r c) R] (h : St w0 G0 l W) (hok : r.Ok) (hs : r.s.length ≤ 1000000) (k : ∀ W', St w0 G0 (Ky b (Xo (r.sign decX).2 c) :: R) W' → RR (strV (r.sign decX).1) W') : CallF Tryz.prog 105 #[.pointer (some ⟨b, 0, none⟩)] W RR := by
  refine sh105_calls ?_
  unfold sh105
  replace h := h.find (k := b) (X := Xo r c)
  unfold XRd.sign at k
  refine see_spec (n := 0) (r := r) (c := c) h hok hs (by decide) fun W h => ?_
  (repeat (first | (with_reducible refine ift ?_) | (with_reducible refine iff' ?_) | (with_reducible refine a_lss ?_) | (with_reducible refine a_leq ?_) | (with_reducible refine a_gtr ?_) | (with_reducible refine a_geq ?_) | (with_reducible refine w_eql ?_) | (with_reducible refine w_neq ?_) | (with_reducible refine s_eql ?_) | (with_reducible refine s_neq ?_) | ((with_reducible refine a_add64 ?h0 ?h1 ?_); (case h0 => omega); (case h1 => omega);  skip) | ((with_reducible refine a_sub64 ?h0 ?h1 ?_); (case h0 => omega); (case h1 => omega);  skip) | ((with_reducible refine a_mul64 ?h0 ?h1 ?_); (case h0 => omega); (case h1 => omega);  skip) | (with_reducible refine a_notd ?_) | (with_reducible refine a_not ?_) | (with_reducible refine a_ext0 ?_) | (with_reducible refine a_ext1 ?_) | (with_reducible refine a_ext2 ?_) | (with_reducible refine x_len ?_) | (with_reducible refine x_lens ?_) | (with_reducible refine x_eqb ?_) | (with_reducible refine x_neb ?_) | (with_reducible refine x_nilP ?_) | (with_reducible refine x_nilPn ?_) | (with_reducible refine x_nilF ?_) | (with_reducible refine x_nilFF ?_) | (with_reducible refine w_eqlL ?_) | (with_reducible refine w_neqL ?_) | (with_reducible refine s_eqlL ?_) | (with_reducible refine ifnt ?_) | (with_reducible refine ifnf ?_) | (with_reducible refine x_eqB ?_) | (with_reducible refine x_neB ?_) | (with_reducible refine x_lssL ?_) | (with_reducible refine x_gtrL ?_) | (with_reducible refine x_geqL ?_) | (with_reducible refine s_neqL ?_) | (with_reducible refine St.load h ?_) | (with_reducible refine St.loadS h ?_) | (with_reducible refine a_fld0 ?_) | (with_reducible refine St.store h fun W h => ?_) | (with_reducible refine St.storeS h fun W h => ?_) | (with_reducible refine St.alloc h fun b W h => ?_) | (with_reducible refine St.allocS h fun b W h => ?_) | (with_reducible refine a_nil ?_) | (with_reducible refine ss_load ?_) | (with_reducible refine ss_loadS ?_) | (with_reducible refine ss_eqb ?_)))
  refine ifd (fun he => ?_) fun he => ?_
  · rw [if_pos he] at k
    exact k W h
  rw [if_neg he] at k
  obtain ⟨x, hx, hsee⟩ := XRd.see_e (Classical.not_not.1 he)
  rw [hsee] at h
  have hlt := XRd.lt_of_at hx
  rw [Nat.add_zero] at hx hlt
  have hne : r.rest ≠ [] := fun e => by have := congrArg List.length e; rw [XRd.rest_len] at this; simp at this; omega
  have hdl := decX_ok.le _ hne
  have hdp := decX_ok.pos _ hne
  rw [XRd.rest_len] at hdl
  dsimp only at h
  refine ⟨St w0 G0 _, h.drew, ?_⟩
  replace h := h.drew
  (repeat (first | (with_reducible refine ift ?_) | (with_reducible refine iff' ?_) | (with_reducible refine a_lss ?_) | (with_reducible refine a_leq ?_) | (with_reducible refine a_gtr ?_) | (with_reducible refine a_geq ?_) | (with_reducible refine w_eql ?_) | (with_reducible refine w_neq ?_) | (with_reducible refine s_eql ?_) | (with_reducible refine s_neq ?_) | ((with_reducible refine a_add64 ?h0 ?h1 ?_); (case h0 => omega); (case h1 => omega);  skip) | ((with_reducible refine a_sub64 ?h0 ?h1 ?_); (case h0 => omega); (case h1 => omega);  skip) | ((with_reducible refine a_mul64 ?h0 ?h1 ?_); (case h0 => omega); (case h1 => omega);  skip) | (with_reducible refine a_notd ?_) | (with_reducible refine a_not ?_) | (with_reducible refine a_ext0 ?_) | (with_reducible refine a_ext1 ?_) | (with_reducible refine a_ext2 ?_) | (with_reducible refine x_len ?_) | (with_reducible refine x_lens ?_) | (with_reducible refine x_eqb ?_) | (with_reducible refine x_neb ?_) | (with_reducible refine x_nilP ?_) | (with_reducible refine x_nilPn ?_) | (with_reducible refine x_nilF ?_) | (with_reducible refine x_nilFF ?_) | (with_reducible refine w_eqlL ?_) | (with_reducible refine w_neqL ?_) | (with_reducible refine s_eqlL ?_) | (with_reducible refine ifnt ?_) | (with_reducible refine ifnf ?_) | (with_reducible refine x_eqB ?_) | (with_reducible refine x_neB ?_) | (with_reducible refine x_lssL ?_) | (with_reducible refine x_gtrL ?_) | (with_reducible refine x_geqL ?_) | (with_reducible refine s_neqL ?_) | (with_reducible refine St.load h ?_) | (with_reducible refine St.loadS h ?_) | (with_reducible refine a_fld0 ?_) | (with_reducible refine St.store h fun W h => ?_) | (with_reducible refine St.storeS h fun W h => ?_) | (with_reducible refine St.alloc h fun b W h => ?_) | (with_reducible refine St.allocS h fun b W h => ?_) | (with_reducible refine a_nil ?_) | (with_reducible refine ss_load ?_) | (with_reducible refine ss_loadS ?_) | (with_reducible refine ss_eqb ?_)))
  refine x_cutL (by omega) ?_
  refine dec_spec (s := r.rest) hT h hne fun W h => a_ext0 (a_ext1 ?_)
  generalize decX r.rest = d at *
  have bad : XRd.good d.1 = false ∨ (d.1 = 65533 ∧ d.2 < 2) → ∀ W, St w0 G0 (Ky b (Xo r c) :: R) W → CallF Tryz.prog 41 #[.pointer (some ⟨b, 0, none⟩), .int .i64 4] W fun _ W => RR (.string ⟨#[]⟩) W := fun hc W h => by
    rw [if_pos hc] at k
    exact fail_spec (r := r) (c := c) h fun W h => k W h
  refine jni (fun vs W' => vs = [.pointer (some ⟨b, 0, none⟩), nV .i64 d.2] ∧ ¬ (XRd.good d.1 = false ∨ (d.1 = 65533 ∧ d.2 < 2)) ∧ St w0 G0 (Ky b (Xo r c) :: R) W') ?_ ?_
  · rintro vs W _ ⟨rfl, hc, h⟩
    rw [if_neg hc] at k
    refine app2 ?_
    (repeat (first | (with_reducible refine ift ?_) | (with_reducible refine iff' ?_) | (with_reducible refine a_lss ?_) | (with_reducible refine a_leq ?_) | (with_reducible refine a_gtr ?_) | (with_reducible refine a_geq ?_) | (with_reducible refine w_eql ?_) | (with_reducible refine w_neq ?_) | (with_reducible refine s_eql ?_) | (with_reducible refine s_neq ?_) | ((with_reducible refine a_add64 ?h0 ?h1 ?_); (case h0 => omega); (case h1 => omega);  skip) | ((with_reducible refine a_sub64 ?h0 ?h1 ?_); (case h0 => omega); (case h1 => omega);  skip) | ((with_reducible refine a_mul64 ?h0 ?h1 ?_); (case h0 => omega); (case h1 => omega);  skip) | (with_reducible refine a_notd ?_) | (with_reducible refine a_not ?_) | (with_reducible refine a_ext0 ?_) | (with_reducible refine a_ext1 ?_) | (with_reducible refine a_ext2 ?_) | (with_reducible refine x_len ?_) | (with_reducible refine x_lens ?_) | (with_reducible refine x_eqb ?_) | (with_reducible refine x_neb ?_) | (with_reducible refine x_nilP ?_) | (with_reducible refine x_nilPn ?_) | (with_reducible refine x_nilF ?_) | (with_reducible refine x_nilFF ?_) | (with_reducible refine w_eqlL ?_) | (with_reducible refine w_neqL ?_) | (with_reducible refine s_eqlL ?_) | (with_reducible refine ifnt ?_) | (with_reducible refine ifnf ?_) | (with_reducible refine x_eqB ?_) | (with_reducible refine x_neB ?_) | (with_reducible refine x_lssL ?_) | (with_reducible refine x_gtrL ?_) | (with_reducible refine x_geqL ?_) | (with_reducible refine s_neqL ?_) | (with_reducible refine St.load h ?_) | (with_reducible refine St.loadS h ?_) | (with_reducible refine a_fld0 ?_) | (with_reducible refine St.store h fun W h => ?_) | (with_reducible refine St.storeS h fun W h => ?_) | (with_reducible refine St.alloc h fun b W h => ?_) | (with_reducible refine St.allocS h fun b W h => ?_) | (with_reducible refine a_nil ?_) | (with_reducible refine ss_load ?_) | (with_reducible refine ss_loadS ?_) | (with_reducible refine ss_eqb ?_)))
    refine ⟨St w0 G0 _, h.drew, ?_⟩
    replace h := h.drew
    (repeat (first | (with_reducible refine ift ?_) | (with_reducible refine iff' ?_) | (with_reducible refine a_lss ?_) | (with_reducible refine a_leq ?_) | (with_reducible refine a_gtr ?_) | (with_reducible refine a_geq ?_) | (with_reducible refine w_eql ?_) | (with_reducible refine w_neq ?_) | (with_reducible refine s_eql ?_) | (with_reducible refine s_neq ?_) | ((with_reducible refine a_add64 ?h0 ?h1 ?_); (case h0 => omega); (case h1 => omega);  skip) | ((with_reducible refine a_sub64 ?h0 ?h1 ?_); (case h0 => omega); (case h1 => omega);  skip) | ((with_reducible refine a_mul64 ?h0 ?h1 ?_); (case h0 => omega); (case h1 => omega);  skip) | (with_reducible refine a_notd ?_) | (with_reducible refine a_not ?_) | (with_reducible refine a_ext0 ?_) | (with_reducible refine a_ext1 ?_) | (with_reducible refine a_ext2 ?_) | (with_reducible refine x_len ?_) | (with_reducible refine x_lens ?_) | (with_reducible refine x_eqb ?_) | (with_reducible refine x_neb ?_) | (with_reducible refine x_nilP ?_) | (with_reducible refine x_nilPn ?_) | (with_reducible refine x_nilF ?_) | (with_reducible refine x_nilFF ?_) | (with_reducible refine w_eqlL ?_) | (with_reducible refine w_neqL ?_) | (with_reducible refine s_eqlL ?_) | (with_reducible refine ifnt ?_) | (with_reducible refine ifnf ?_) | (with_reducible refine x_eqB ?_) | (with_reducible refine x_neB ?_) | (with_reducible refine x_lssL ?_) | (with_reducible refine x_gtrL ?_) | (with_reducible refine x_geqL ?_) | (with_reducible refine s_neqL ?_) | (with_reducible refine St.load h ?_) | (with_reducible refine St.loadS h ?_) | (with_reducible refine a_fld0 ?_) | (with_reducible refine St.store h fun W h => ?_) | (with_reducible refine St.storeS h fun W h => ?_) | (with_reducible refine St.alloc h fun b W h => ?_) | (with_reducible refine St.allocS h fun b W h => ?_) | (with_reducible refine a_nil ?_) | (with_reducible refine ss_load ?_) | (with_reducible refine ss_loadS ?_) | (with_reducible refine ss_eqb ?_)))
    rw [show ((r.at_ : Int) + (d.2 : Int) - (d.2 : Int)) = ((r.at_ : Nat) : Int) by omega, show ((r.at_ : Int) + (d.2 : Int)) = ((r.at_ + d.2 : Nat) : Int) by push_cast; rfl]
    refine x_cut (by omega) (by omega) ?_
    rw [show r.at_ + d.2 - r.at_ = d.2 by omega]
    exact k _ h
  · refine good_spec (a_not (ifnb (fun hg => ?_) fun hg => ?_))
    · exact bad (.inl hg) W h
    · refine w_eql (ifd (fun h1 => a_lss (ifd (fun h2 => ?_) fun h2 => ?_)) fun h1 => ?_)
      · exact bad (.inr ⟨h1, by omega⟩) W h
      · exact ⟨rfl, by rintro (a | a); rw [hg] at a; cases a; omega, h⟩
      · exact ⟨rfl, by rintro (a | a); rw [hg] at a; cases a; exact h1 a.1, h⟩
/-- until -/
theorem til_spec (hT : XTabs w0) [i : Has l b (Xo r c) R] (h : St w0 G0 l W) (hok : r.Ok) (hs : r.s.length ≤ 1000000) (hp : p.length ≤ 1000) (k : ∀ W', St w0 G0 (Ky b (Xo (r.til decX p).2 c) :: R) W' → RR (strV (r.til decX p).1) W') : CallF Tryz.prog 74 #[.pointer (some ⟨b, 0, none⟩), strV p] W RR := by
  refine sh74_calls ?_
  unfold sh74
  replace h := h.find (k := b) (X := Xo r c)
  have hlt := hok.lt
  unfold XRd.til at k
  have hQs := XRd.stp_signs (p := p) (f := r.s.length + 2) decX_ok hok
  have hQe := XRd.signs_end (p := p) (f := r.s.length + 2) decX_ok hok (by omega)
  generalize hQ : XRd.signs decX p (r.s.length + 2) r = Q at k hQs hQe
  (repeat (first | (with_reducible refine ift ?_) | (with_reducible refine iff' ?_) | (with_reducible refine a_lss ?_) | (with_reducible refine a_leq ?_) | (with_reducible refine a_gtr ?_) | (with_reducible refine a_geq ?_) | (with_reducible refine w_eql ?_) | (with_reducible refine w_neq ?_) | (with_reducible refine s_eql ?_) | (with_reducible refine s_neq ?_) | ((with_reducible refine a_add64 ?h0 ?h1 ?_); (case h0 => omega); (case h1 => omega);  skip) | ((with_reducible refine a_sub64 ?h0 ?h1 ?_); (case h0 => omega); (case h1 => omega);  skip) | ((with_reducible refine a_mul64 ?h0 ?h1 ?_); (case h0 => omega); (case h1 => omega);  skip) | (with_reducible refine a_notd ?_) | (with_reducible refine a_not ?_) | (with_reducible refine a_ext0 ?_) | (with_reducible refine a_ext1 ?_) | (with_reducible refine a_ext2 ?_) | (with_reducible refine x_len ?_) | (with_reducible refine x_lens ?_) | (with_reducible refine x_eqb ?_) | (with_reducible refine x_neb ?_) | (with_reducible refine x_nilP ?_) | (with_reducible refine x_nilPn ?_) | (with_reducible refine x_nilF ?_) | (with_reducible refine x_nilFF ?_) | (with_reducible refine w_eqlL ?_) | (with_reducible refine w_neqL ?_) | (with_reducible refine s_eqlL ?_) | (with_reducible refine ifnt ?_) | (with_reducible refine ifnf ?_) | (with_reducible refine x_eqB ?_) | (with_reducible refine x_neB ?_) | (with_reducible refine x_lssL ?_) | (with_reducible refine x_gtrL ?_) | (with_reducible refine x_geqL ?_) | (with_reducible refine s_neqL ?_) | (with_reducible refine St.load h ?_) | (with_reducible refine St.loadS h ?_) | (with_reducible refine a_fld0 ?_) | (with_reducible refine St.store h fun W h => ?_) | (with_reducible refine St.storeS h fun W h => ?_) | (with_reducible refine St.alloc h fun b W h => ?_) | (with_reducible refine St.allocS h fun b W h => ?_) | (with_reducible refine a_nil ?_) | (with_reducible refine ss_load ?_) | (with_reducible refine ss_loadS ?_) | (with_reducible refine ss_eqb ?_)))
  refine jni (fun vs W' => vs = [.pointer (some ⟨b, 0, none⟩), strV p, nV .i64 r.at_] ∧ St w0 G0 (Ky b (Xo Q c) :: R) W') ?_ ?_
  · rintro vs W _ ⟨rfl, h⟩
    refine app3 ?_
    have h1 := hQs.up
    have h2 := hQs.ok.lt
    have h3 := hQs.s
    have hsl : Q.s.length = r.s.length := by rw [h3]
    (repeat (first | (with_reducible refine ift ?_) | (with_reducible refine iff' ?_) | (with_reducible refine a_lss ?_) | (with_reducible refine a_leq ?_) | (with_reducible refine a_gtr ?_) | (with_reducible refine a_geq ?_) | (with_reducible refine w_eql ?_) | (with_reducible refine w_neq ?_) | (with_reducible refine s_eql ?_) | (with_reducible refine s_neq ?_) | ((with_reducible refine a_add64 ?h0 ?h1 ?_); (case h0 => omega); (case h1 => omega);  skip) | ((with_reducible refine a_sub64 ?h0 ?h1 ?_); (case h0 => omega); (case h1 => omega);  skip) | ((with_reducible refine a_mul64 ?h0 ?h1 ?_); (case h0 => omega); (case h1 => omega);  skip) | (with_reducible refine a_notd ?_) | (with_reducible refine a_not ?_) | (with_reducible refine a_ext0 ?_) | (with_reducible refine a_ext1 ?_) | (with_reducible refine a_ext2 ?_) | (with_reducible refine x_len ?_) | (with_reducible refine x_lens ?_) | (with_reducible refine x_eqb ?_) | (with_reducible refine x_neb ?_) | (with_reducible refine x_nilP ?_) | (with_reducible refine x_nilPn ?_) | (with_reducible refine x_nilF ?_) | (with_reducible refine x_nilFF ?_) | (with_reducible refine w_eqlL ?_) | (with_reducible refine w_neqL ?_) | (with_reducible refine s_eqlL ?_) | (with_reducible refine ifnt ?_) | (with_reducible refine ifnf ?_) | (with_reducible refine x_eqB ?_) | (with_reducible refine x_neB ?_) | (with_reducible refine x_lssL ?_) | (with_reducible refine x_gtrL ?_) | (with_reducible refine x_geqL ?_) | (with_reducible refine s_neqL ?_) | (with_reducible refine St.load h ?_) | (with_reducible refine St.loadS h ?_) | (with_reducible refine a_fld0 ?_) | (with_reducible refine St.store h fun W h => ?_) | (with_reducible refine St.storeS h fun W h => ?_) | (with_reducible refine St.alloc h fun b W h => ?_) | (with_reducible refine St.allocS h fun b W h => ?_) | (with_reducible refine a_nil ?_) | (with_reducible refine ss_load ?_) | (with_reducible refine ss_loadS ?_) | (with_reducible refine ss_eqb ?_)))
    refine ifd (fun he => ?_) fun he => ?_
    · rw [if_pos he] at k
      exact k W h
    rw [if_neg he] at k
    have h4 := XRd.isPre_len (hQe (Classical.not_not.1 he))
    rw [XRd.rest_len] at h4
    have h5 := hQs.ok.le (Classical.not_not.1 he)
    (repeat (first | (with_reducible refine ift ?_) | (with_reducible refine iff' ?_) | (with_reducible refine a_lss ?_) | (with_reducible refine a_leq ?_) | (with_reducible refine a_gtr ?_) | (with_reducible refine a_geq ?_) | (with_reducible refine w_eql ?_) | (with_reducible refine w_neq ?_) | (with_reducible refine s_eql ?_) | (with_reducible refine s_neq ?_) | ((with_reducible refine a_add64 ?h0 ?h1 ?_); (case h0 => omega); (case h1 => omega);  skip) | ((with_reducible refine a_sub64 ?h0 ?h1 ?_); (case h0 => omega); (case h1 => omega);  skip) | ((with_reducible refine a_mul64 ?h0 ?h1 ?_); (case h0 => omega); (case h1 => omega);  skip) | (with_reducible refine a_notd ?_) | (with_reducible refine a_not ?_) | (with_reducible refine a_ext0 ?_) | (with_reducible refine a_ext1 ?_) | (with_reducible refine a_ext2 ?_) | (with_reducible refine x_len ?_) | (with_reducible refine x_lens ?_) | (with_reducible refine x_eqb ?_) | (with_reducible refine x_neb ?_) | (with_reducible refine x_nilP ?_) | (with_reducible refine x_nilPn ?_) | (with_reducible refine x_nilF ?_) | (with_reducible refine x_nilFF ?_) | (with_reducible refine w_eqlL ?_) | (with_reducible refine w_neqL ?_) | (with_reducible refine s_eqlL ?_) | (with_reducible refine ifnt ?_) | (with_reducible refine ifnf ?_) | (with_reducible refine x_eqB ?_) | (with_reducible refine x_neB ?_) | (with_reducible refine x_lssL ?_) | (with_reducible refine x_gtrL ?_) | (with_reducible refine x_geqL ?_) | (with_reducible refine s_neqL ?_) | (with_reducible refine St.load h ?_) | (with_reducible refine St.loadS h ?_) | (with_reducible refine a_fld0 ?_) | (with_reducible refine St.store h fun W h => ?_) | (with_reducible refine St.storeS h fun W h => ?_) | (with_reducible refine St.alloc h fun b W h => ?_) | (with_reducible refine St.allocS h fun b W h => ?_) | (with_reducible refine a_nil ?_) | (with_reducible refine ss_load ?_) | (with_reducible refine ss_loadS ?_) | (with_reducible refine ss_eqb ?_)))
    refine ⟨St w0 G0 _, h.drew, ?_⟩
    replace h := h.drew
    (repeat (first | (with_reducible refine ift ?_) | (with_reducible refine iff' ?_) | (with_reducible refine a_lss ?_) | (with_reducible refine a_leq ?_) | (with_reducible refine a_gtr ?_) | (with_reducible refine a_geq ?_) | (with_reducible refine w_eql ?_) | (with_reducible refine w_neq ?_) | (with_reducible refine s_eql ?_) | (with_reducible refine s_neq ?_) | ((with_reducible refine a_add64 ?h0 ?h1 ?_); (case h0 => omega); (case h1 => omega);  skip) | ((with_reducible refine a_sub64 ?h0 ?h1 ?_); (case h0 => omega); (case h1 => omega);  skip) | ((with_reducible refine a_mul64 ?h0 ?h1 ?_); (case h0 => omega); (case h1 => omega);  skip) | (with_reducible refine a_notd ?_) | (with_reducible refine a_not ?_) | (with_reducible refine a_ext0 ?_) | (with_reducible refine a_ext1 ?_) | (with_reducible refine a_ext2 ?_) | (with_reducible refine x_len ?_) | (with_reducible refine x_lens ?_) | (with_reducible refine x_eqb ?_) | (with_reducible refine x_neb ?_) | (with_reducible refine x_nilP ?_) | (with_reducible refine x_nilPn ?_) | (with_reducible refine x_nilF ?_) | (with_reducible refine x_nilFF ?_) | (with_reducible refine w_eqlL ?_) | (with_reducible refine w_neqL ?_) | (with_reducible refine s_eqlL ?_) | (with_reducible refine ifnt ?_) | (with_reducible refine ifnf ?_) | (with_reducible refine x_eqB ?_) | (with_reducible refine x_neB ?_) | (with_reducible refine x_lssL ?_) | (with_reducible refine x_gtrL ?_) | (with_reducible refine x_geqL ?_) | (with_reducible refine s_neqL ?_) | (with_reducible refine St.load h ?_) | (with_reducible refine St.loadS h ?_) | (with_reducible refine a_fld0 ?_) | (with_reducible refine St.store h fun W h => ?_) | (with_reducible refine St.storeS h fun W h => ?_) | (with_reducible refine St.alloc h fun b W h => ?_) | (with_reducible refine St.allocS h fun b W h => ?_) | (with_reducible refine a_nil ?_) | (with_reducible refine ss_load ?_) | (with_reducible refine ss_loadS ?_) | (with_reducible refine ss_eqb ?_)))
    rw [show ((Q.at_ : Int) + (p.length : Int) - (p.length : Int)) = ((Q.at_ : Nat) : Int) by omega]
    refine x_cut (by omega) (by omega) ?_
    rw [h3]
    exact k _ h
  · refine lpx (α := Nat × XRd) (fun _ => []) (fun A W' => A.2.Ok ∧ A.2.s = r.s ∧ (A.2.e = 0 → r.s.length < A.1 + A.2.at_) ∧ XRd.signs decX p A.1 A.2 = Q ∧ St w0 G0 (Ky b (Xo A.2 c) :: R) W') (fun A => A.1) (r.s.length + 2, r) (fun _ => rfl) rfl ⟨hok, rfl, fun _ => by simp only; omega, hQ, h⟩ ?_
    clear h
    rintro next ⟨f, q⟩ W1 hnext ⟨h1, h2, h3, h4, h⟩
    simp only at h1 h2 h3 h4 h
    refine app0 ?_
    have hql := h1.lt
    have hsl : q.s.length = r.s.length := by rw [h2]
    refine ⟨St w0 G0 _, h.drew, ?_⟩
    replace h := h.drew
    (repeat (first | (with_reducible refine ift ?_) | (with_reducible refine iff' ?_) | (with_reducible refine a_lss ?_) | (with_reducible refine a_leq ?_) | (with_reducible refine a_gtr ?_) | (with_reducible refine a_geq ?_) | (with_reducible refine w_eql ?_) | (with_reducible refine w_neq ?_) | (with_reducible refine s_eql ?_) | (with_reducible refine s_neq ?_) | ((with_reducible refine a_add64 ?h0 ?h1 ?_); (case h0 => omega); (case h1 => omega);  skip) | ((with_reducible refine a_sub64 ?h0 ?h1 ?_); (case h0 => omega); (case h1 => omega);  skip) | ((with_reducible refine a_mul64 ?h0 ?h1 ?_); (case h0 => omega); (case h1 => omega);  skip) | (with_reducible refine a_notd ?_) | (with_reducible refine a_not ?_) | (with_reducible refine a_ext0 ?_) | (with_reducible refine a_ext1 ?_) | (with_reducible refine a_ext2 ?_) | (with_reducible refine x_len ?_) | (with_reducible refine x_lens ?_) | (with_reducible refine x_eqb ?_) | (with_reducible refine x_neb ?_) | (with_reducible refine x_nilP ?_) | (with_reducible refine x_nilPn ?_) | (with_reducible refine x_nilF ?_) | (with_reducible refine x_nilFF ?_) | (with_reducible refine w_eqlL ?_) | (with_reducible refine w_neqL ?_) | (with_reducible refine s_eqlL ?_) | (with_reducible refine ifnt ?_) | (with_reducible refine ifnf ?_) | (with_reducible refine x_eqB ?_) | (with_reducible refine x_neB ?_) | (with_reducible refine x_lssL ?_) | (with_reducible refine x_gtrL ?_) | (with_reducible refine x_geqL ?_) | (with_reducible refine s_neqL ?_) | (with_reducible refine St.load h ?_) | (with_reducible refine St.loadS h ?_) | (with_reducible refine a_fld0 ?_) | (with_reducible refine St.store h fun W h => ?_) | (with_reducible refine St.storeS h fun W h => ?_) | (with_reducible refine St.alloc h fun b W h => ?_) | (with_reducible refine St.allocS h fun b W h => ?_) | (with_reducible refine a_nil ?_) | (with_reducible refine ss_load ?_) | (with_reducible refine ss_loadS ?_) | (with_reducible refine ss_eqb ?_)))
    refine ifd (fun he => ?_) fun he => ?_
    · have hle := h1.le he
      (repeat (first | (with_reducible refine ift ?_) | (with_reducible refine iff' ?_) | (with_reducible refine a_lss ?_) | (with_reducible refine a_leq ?_) | (with_reducible refine a_gtr ?_) | (with_reducible refine a_geq ?_) | (with_reducible refine w_eql ?_) | (with_reducible refine w_neq ?_) | (with_reducible refine s_eql ?_) | (with_reducible refine s_neq ?_) | ((with_reducible refine a_add64 ?h0 ?h1 ?_); (case h0 => omega); (case h1 => omega);  skip) | ((with_reducible refine a_sub64 ?h0 ?h1 ?_); (case h0 => omega); (case h1 => omega);  skip) | ((with_reducible refine a_mul64 ?h0 ?h1 ?_); (case h0 => omega); (case h1 => omega);  skip) | (with_reducible refine a_notd ?_) | (with_reducible refine a_not ?_) | (with_reducible refine a_ext0 ?_) | (with_reducible refine a_ext1 ?_) | (with_reducible refine a_ext2 ?_) | (with_reducible refine x_len ?_) | (with_reducible refine x_lens ?_) | (with_reducible refine x_eqb ?_) | (with_reducible refine x_neb ?_) | (with_reducible refine x_nilP ?_) | (with_reducible refine x_nilPn ?_) | (with_reducible refine x_nilF ?_) | (with_reducible refine x_nilFF ?_) | (with_reducible refine w_eqlL ?_) | (with_reducible refine w_neqL ?_) | (with_reducible refine s_eqlL ?_) | (with_reducible refine ifnt ?_) | (with_reducible refine ifnf ?_) | (with_reducible refine x_eqB ?_) | (with_reducible refine x_neB ?_) | (with_reducible refine x_lssL ?_) | (with_reducible refine x_gtrL ?_) | (with_reducible refine x_geqL ?_) | (with_reducible refine s_neqL ?_) | (with_reducible refine St.load h ?_) | (with_reducible refine St.loadS h ?_) | (with_reducible refine a_fld0 ?_) | (with_reducible refine St.store h fun W h => ?_) | (with_reducible refine St.storeS h fun W h => ?_) | (with_reducible refine St.alloc h fun b W h => ?_) | (with_reducible refine St.allocS h fun b W h => ?_) | (with_reducible refine a_nil ?_) | (with_reducible refine ss_load ?_) | (with_reducible refine ss_loadS ?_) | (with_reducible refine ss_eqb ?_)))
      refine x_cutL (by omega) ?_
      refine pre_spec (p := p) (s := q.rest) ⟨h, a_not (ifnb (fun hp => ?_) fun hp => ?_)⟩
      · have h3' := h3 he
        refine sign_spec hT (r := q) (c := c) h h1 (by omega) fun W h => ⟨rfl, rfl, rfl, ?_⟩
        obtain ⟨f, rfl⟩ : ∃ g, f = g + 1 := ⟨f - 1, by omega⟩
        unfold XRd.signs at h4
        rw [if_pos ⟨he, hp⟩] at h4
        have hst := XRd.stp_sign decX_ok h1
        have hadv := XRd.adv_sign (r := q) decX_ok
        exact hnext (f, (q.sign decX).2) W (by simp) ⟨hst.ok, hst.s.trans h2, fun hz => by have := hadv hz; simp only; omega, h4, h⟩
      · have h3' := h3 he
        have : q = Q := by
          obtain ⟨f, rfl⟩ : ∃ g, f = g + 1 := ⟨f - 1, by omega⟩
          unfold XRd.signs at h4
          rw [if_neg (fun hx => by rw [hp] at hx; cases hx.2)] at h4
          exact h4
        rw [this] at h
        exact ⟨rfl, h⟩
    · rw [XRd.signs_no he] at h4
      rw [h4] at h
      exact ⟨rfl, h⟩
/-- name -/
theorem name_spec [i : Has l b (Xo r c) R] (h : St w0 G l W) (hle : r.at_ ≤ r.s.length) (hs : r.s.length ≤ 1000000) (k : ∀ W', St w0 G (Ky b (Xo r.nameOf.2 c) :: R) W' → RR (strV r.nameOf.1) W') : CallF Tryz.prog 106 #[.pointer (some ⟨b, 0, none⟩)] W RR := by
  refine sh106_calls ?_
  unfold sh106
  replace h := h.find (k := b) (X := Xo r c)
  unfold XRd.nameOf at k
  dsimp only at k
  (repeat (first | (with_reducible refine ift ?_) | (with_reducible refine iff' ?_) | (with_reducible refine a_lss ?_) | (with_reducible refine a_leq ?_) | (with_reducible refine a_gtr ?_) | (with_reducible refine a_geq ?_) | (with_reducible refine w_eql ?_) | (with_reducible refine w_neq ?_) | (with_reducible refine s_eql ?_) | (with_reducible refine s_neq ?_) | ((with_reducible refine a_add64 ?h0 ?h1 ?_); (case h0 => omega); (case h1 => omega);  skip) | ((with_reducible refine a_sub64 ?h0 ?h1 ?_); (case h0 => omega); (case h1 => omega);  skip) | ((with_reducible refine a_mul64 ?h0 ?h1 ?_); (case h0 => omega); (case h1 => omega);  skip) | (with_reducible refine a_notd ?_) | (with_reducible refine a_not ?_) | (with_reducible refine a_ext0 ?_) | (with_reducible refine a_ext1 ?_) | (with_reducible refine a_ext2 ?_) | (with_reducible refine x_len ?_) | (with_reducible refine x_lens ?_) | (with_reducible refine x_eqb ?_) | (with_reducible refine x_neb ?_) | (with_reducible refine x_nilP ?_) | (with_reducible refine x_nilPn ?_) | (with_reducible refine x_nilF ?_) | (with_reducible refine x_nilFF ?_) | (with_reducible refine w_eqlL ?_) | (with_reducible refine w_neqL ?_) | (with_reducible refine s_eqlL ?_) | (with_reducible refine ifnt ?_) | (with_reducible refine ifnf ?_) | (with_reducible refine x_eqB ?_) | (with_reducible refine x_neB ?_) | (with_reducible refine x_lssL ?_) | (with_reducible refine x_gtrL ?_) | (with_reducible refine x_geqL ?_) | (with_reducible refine s_neqL ?_) | (with_reducible refine St.load h ?_) | (with_reducible refine St.loadS h ?_) | (with_reducible refine a_fld0 ?_) | (with_reducible refine St.store h fun W h => ?_) | (with_reducible refine St.storeS h fun W h => ?_) | (with_reducible refine St.alloc h fun b W h => ?_) | (with_reducible refine St.allocS h fun b W h => ?_) | (with_reducible refine a_nil ?_) | (with_reducible refine ss_load ?_) | (with_reducible refine ss_loadS ?_) | (with_reducible refine ss_eqb ?_)))
  refine see_spec (n := 0) (r := r) (c := c) h (.of_le hle) hs (by decide) fun W h => ?_
  generalize hF : (r.see 0).2.failIf (decide ((r.see 0).2.e = 0) && !XRd.begs (r.see 0).1) 4 = F at k
  have hFa : F.at_ = r.at_ := by rw [← hF, XRd.failIf_at, XRd.see_at]
  have hFs : F.s = r.s := by rw [← hF, XRd.failIf_s, XRd.see_s]
  generalize hN : (r.rest.takeWhile XRd.goes).length = N at k
  rw [XRd.tw_take, hN] at k
  have hrest : F.rest = r.rest := by unfold XRd.rest; rw [hFa, hFs]
  have hNl := XRd.tw_le XRd.goes r.rest
  rw [hN, XRd.rest_len] at hNl
  refine jni (fun vs W' => vs = [.pointer (some ⟨b, 0, none⟩), nV .i64 r.at_] ∧ St w0 G (Ky b (Xo F c) :: R) W') ?_ ?_
  · rintro vs W _ ⟨rfl, h⟩
    refine app2 ?_
    refine jni (fun vs W' => vs = [.pointer (some ⟨b, 0, none⟩), nV .i64 r.at_] ∧ St w0 G (Ky b (Xo (F.on N) c) :: R) W') ?_ ?_
    · rintro vs W _ ⟨rfl, h⟩
      refine app2 ?_
      refine ⟨St w0 G _, h.drew, ?_⟩
      replace h := h.drew
      have e1 : (F.on N).at_ = r.at_ + N := by show F.at_ + N = _; rw [hFa]
      have e2 : (F.on N).s = r.s := hFs
      (repeat (first | (with_reducible refine ift ?_) | (with_reducible refine iff' ?_) | (with_reducible refine a_lss ?_) | (with_reducible refine a_leq ?_) | (with_reducible refine a_gtr ?_) | (with_reducible refine a_geq ?_) | (with_reducible refine w_eql ?_) | (with_reducible refine w_neq ?_) | (with_reducible refine s_eql ?_) | (with_reducible refine s_neq ?_) | ((with_reducible refine a_add64 ?h0 ?h1 ?_); (case h0 => omega); (case h1 => omega);  skip) | ((with_reducible refine a_sub64 ?h0 ?h1 ?_); (case h0 => omega); (case h1 => omega);  skip) | ((with_reducible refine a_mul64 ?h0 ?h1 ?_); (case h0 => omega); (case h1 => omega);  skip) | (with_reducible refine a_notd ?_) | (with_reducible refine a_not ?_) | (with_reducible refine a_ext0 ?_) | (with_reducible refine a_ext1 ?_) | (with_reducible refine a_ext2 ?_) | (with_reducible refine x_len ?_) | (with_reducible refine x_lens ?_) | (with_reducible refine x_eqb ?_) | (with_reducible refine x_neb ?_) | (with_reducible refine x_nilP ?_) | (with_reducible refine x_nilPn ?_) | (with_reducible refine x_nilF ?_) | (with_reducible refine x_nilFF ?_) | (with_reducible refine w_eqlL ?_) | (with_reducible refine w_neqL ?_) | (with_reducible refine s_eqlL ?_) | (with_reducible refine ifnt ?_) | (with_reducible refine ifnf ?_) | (with_reducible refine x_eqB ?_) | (with_reducible refine x_neB ?_) | (with_reducible refine x_lssL ?_) | (with_reducible refine x_gtrL ?_) | (with_reducible refine x_geqL ?_) | (with_reducible refine s_neqL ?_) | (with_reducible refine St.load h ?_) | (with_reducible refine St.loadS h ?_) | (with_reducible refine a_fld0 ?_) | (with_reducible refine St.store h fun W h => ?_) | (with_reducible refine St.storeS h fun W h => ?_) | (with_reducible refine St.alloc h fun b W h => ?_) | (with_reducible refine St.allocS h fun b W h => ?_) | (with_reducible refine a_nil ?_) | (with_reducible refine ss_load ?_) | (with_reducible refine ss_loadS ?_) | (with_reducible refine ss_eqb ?_)))
      rw [e1, e2]
      refine x_cut (by omega) (by omega) ?_
      rw [show r.at_ + N - r.at_ = N by omega]
      exact k _ h
    · refine lpx (α := Nat) (fun j => []) (fun j W' => j + ((F.on j).rest.takeWhile XRd.goes).length = N ∧ St w0 G (Ky b (Xo (F.on j) c) :: R) W') (fun j => N - j) 0 (fun _ => rfl) rfl ⟨by rw [Nat.zero_add]; show (F.rest.takeWhile XRd.goes).length = N; rw [hrest]; exact hN, h⟩ ?_
      clear h
      rintro next j W1 hnext ⟨h1, h⟩
      refine app0 ?_
      have hat : (F.on j).at_ = r.at_ + j := by show F.at_ + j = _; rw [hFa]
      have hss : (F.on j).s = r.s := hFs
      have hon : (F.on j).on 1 = F.on (j + 1) := rfl
      generalize hq : F.on j = q at *
      have hsl : q.s.length = r.s.length := by rw [hss]
      refine ⟨St w0 G _, h.drew, ?_⟩
      replace h := h.drew
      (repeat (first | (with_reducible refine ift ?_) | (with_reducible refine iff' ?_) | (with_reducible refine a_lss ?_) | (with_reducible refine a_leq ?_) | (with_reducible refine a_gtr ?_) | (with_reducible refine a_geq ?_) | (with_reducible refine w_eql ?_) | (with_reducible refine w_neq ?_) | (with_reducible refine s_eql ?_) | (with_reducible refine s_neq ?_) | ((with_reducible refine a_add64 ?h0 ?h1 ?_); (case h0 => omega); (case h1 => omega);  skip) | ((with_reducible refine a_sub64 ?h0 ?h1 ?_); (case h0 => omega); (case h1 => omega);  skip) | ((with_reducible refine a_mul64 ?h0 ?h1 ?_); (case h0 => omega); (case h1 => omega);  skip) | (with_reducible refine a_notd ?_) | (with_reducible refine a_not ?_) | (with_reducible refine a_ext0 ?_) | (with_reducible refine a_ext1 ?_) | (with_reducible refine a_ext2 ?_) | (with_reducible refine x_len ?_) | (with_reducible refine x_lens ?_) | (with_reducible refine x_eqb ?_) | (with_reducible refine x_neb ?_) | (with_reducible refine x_nilP ?_) | (with_reducible refine x_nilPn ?_) | (with_reducible refine x_nilF ?_) | (with_reducible refine x_nilFF ?_) | (with_reducible refine w_eqlL ?_) | (with_reducible refine w_neqL ?_) | (with_reducible refine s_eqlL ?_) | (with_reducible refine ifnt ?_) | (with_reducible refine ifnf ?_) | (with_reducible refine x_eqB ?_) | (with_reducible refine x_neB ?_) | (with_reducible refine x_lssL ?_) | (with_reducible refine x_gtrL ?_) | (with_reducible refine x_geqL ?_) | (with_reducible refine s_neqL ?_) | (with_reducible refine St.load h ?_) | (with_reducible refine St.loadS h ?_) | (with_reducible refine a_fld0 ?_) | (with_reducible refine St.store h fun W h => ?_) | (with_reducible refine St.storeS h fun W h => ?_) | (with_reducible refine St.alloc h fun b W h => ?_) | (with_reducible refine St.allocS h fun b W h => ?_) | (with_reducible refine a_nil ?_) | (with_reducible refine ss_load ?_) | (with_reducible refine ss_loadS ?_) | (with_reducible refine ss_eqb ?_)))
      refine ifd (fun hc => ?_) fun hc => ?_
      · have hx : q.s[q.at_]? = some q.s[q.at_] := List.getElem?_eq_getElem (by omega)
        generalize q.s[q.at_] = x at hx
        (repeat (first | (with_reducible refine ift ?_) | (with_reducible refine iff' ?_) | (with_reducible refine a_lss ?_) | (with_reducible refine a_leq ?_) | (with_reducible refine a_gtr ?_) | (with_reducible refine a_geq ?_) | (with_reducible refine w_eql ?_) | (with_reducible refine w_neq ?_) | (with_reducible refine s_eql ?_) | (with_reducible refine s_neq ?_) | ((with_reducible refine a_add64 ?h0 ?h1 ?_); (case h0 => omega); (case h1 => omega);  skip) | ((with_reducible refine a_sub64 ?h0 ?h1 ?_); (case h0 => omega); (case h1 => omega);  skip) | ((with_reducible refine a_mul64 ?h0 ?h1 ?_); (case h0 => omega); (case h1 => omega);  skip) | (with_reducible refine a_notd ?_) | (with_reducible refine a_not ?_) | (with_reducible refine a_ext0 ?_) | (with_reducible refine a_ext1 ?_) | (with_reducible refine a_ext2 ?_) | (with_reducible refine x_len ?_) | (with_reducible refine x_lens ?_) | (with_reducible refine x_eqb ?_) | (with_reducible refine x_neb ?_) | (with_reducible refine x_nilP ?_) | (with_reducible refine x_nilPn ?_) | (with_reducible refine x_nilF ?_) | (with_reducible refine x_nilFF ?_) | (with_reducible refine w_eqlL ?_) | (with_reducible refine w_neqL ?_) | (with_reducible refine s_eqlL ?_) | (with_reducible refine ifnt ?_) | (with_reducible refine ifnf ?_) | (with_reducible refine x_eqB ?_) | (with_reducible refine x_neB ?_) | (with_reducible refine x_lssL ?_) | (with_reducible refine x_gtrL ?_) | (with_reducible refine x_geqL ?_) | (with_reducible refine s_neqL ?_) | (with_reducible refine St.load h ?_) | (with_reducible refine St.loadS h ?_) | (with_reducible refine a_fld0 ?_) | (with_reducible refine St.store h fun W h => ?_) | (with_reducible refine St.storeS h fun W h => ?_) | (with_reducible refine St.alloc h fun b W h => ?_) | (with_reducible refine St.allocS h fun b W h => ?_) | (with_reducible refine a_nil ?_) | (with_reducible refine ss_load ?_) | (with_reducible refine ss_loadS ?_) | (with_reducible refine ss_eqb ?_)))
        refine x_index hx ?_
        refine goes_spec ⟨h, ?_⟩
        refine ifb (fun hb => ?_) fun hb => ?_
        · have e1 := XRd.tw_yes (f := XRd.goes) hx hb
          (repeat (first | (with_reducible refine ift ?_) | (with_reducible refine iff' ?_) | (with_reducible refine a_lss ?_) | (with_reducible refine a_leq ?_) | (with_reducible refine a_gtr ?_) | (with_reducible refine a_geq ?_) | (with_reducible refine w_eql ?_) | (with_reducible refine w_neq ?_) | (with_reducible refine s_eql ?_) | (with_reducible refine s_neq ?_) | ((with_reducible refine a_add64 ?h0 ?h1 ?_); (case h0 => omega); (case h1 => omega);  skip) | ((with_reducible refine a_sub64 ?h0 ?h1 ?_); (case h0 => omega); (case h1 => omega);  skip) | ((with_reducible refine a_mul64 ?h0 ?h1 ?_); (case h0 => omega); (case h1 => omega);  skip) | (with_reducible refine a_notd ?_) | (with_reducible refine a_not ?_) | (with_reducible refine a_ext0 ?_) | (with_reducible refine a_ext1 ?_) | (with_reducible refine a_ext2 ?_) | (with_reducible refine x_len ?_) | (with_reducible refine x_lens ?_) | (with_reducible refine x_eqb ?_) | (with_reducible refine x_neb ?_) | (with_reducible refine x_nilP ?_) | (with_reducible refine x_nilPn ?_) | (with_reducible refine x_nilF ?_) | (with_reducible refine x_nilFF ?_) | (with_reducible refine w_eqlL ?_) | (with_reducible refine w_neqL ?_) | (with_reducible refine s_eqlL ?_) | (with_reducible refine ifnt ?_) | (with_reducible refine ifnf ?_) | (with_reducible refine x_eqB ?_) | (with_reducible refine x_neB ?_) | (with_reducible refine x_lssL ?_) | (with_reducible refine x_gtrL ?_) | (with_reducible refine x_geqL ?_) | (with_reducible refine s_neqL ?_) | (with_reducible refine St.load h ?_) | (with_reducible refine St.loadS h ?_) | (with_reducible refine a_fld0 ?_) | (with_reducible refine St.store h fun W h => ?_) | (with_reducible refine St.storeS h fun W h => ?_) | (with_reducible refine St.alloc h fun b W h => ?_) | (with_reducible refine St.allocS h fun b W h => ?_) | (with_reducible refine a_nil ?_) | (with_reducible refine ss_load ?_) | (with_reducible refine ss_loadS ?_) | (with_reducible refine ss_eqb ?_)))
          refine ⟨rfl, rfl, hnext (j + 1) _ (by omega) ⟨by rw [← hon]; omega, ?_⟩⟩
          rw [← hon]
          exact h
        · have e1 := XRd.tw_no (f := XRd.goes) hx hb
          have hj : j = N := by omega
          subst hj
          refine ⟨rfl, ?_⟩
          rw [hq]
          exact h
      · have e1 := XRd.tw_end (f := XRd.goes) (r := q) (by omega)
        have hj : j = N := by omega
        subst hj
        refine ⟨rfl, ?_⟩
        rw [hq]
        exact h
  · unfold XRd.failIf at hF
    (repeat (first | (with_reducible refine ift ?_) | (with_reducible refine iff' ?_) | (with_reducible refine a_lss ?_) | (with_reducible refine a_leq ?_) | (with_reducible refine a_gtr ?_) | (with_reducible refine a_geq ?_) | (with_reducible refine w_eql ?_) | (with_reducible refine w_neq ?_) | (with_reducible refine s_eql ?_) | (with_reducible refine s_neq ?_) | ((with_reducible refine a_add64 ?h0 ?h1 ?_); (case h0 => omega); (case h1 => omega);  skip) | ((with_reducible refine a_sub64 ?h0 ?h1 ?_); (case h0 => omega); (case h1 => omega);  skip) | ((with_reducible refine a_mul64 ?h0 ?h1 ?_); (case h0 => omega); (case h1 => omega);  skip) | (with_reducible refine a_notd ?_) | (with_reducible refine a_not ?_) | (with_reducible refine a_ext0 ?_) | (with_reducible refine a_ext1 ?_) | (with_reducible refine a_ext2 ?_) | (with_reducible refine x_len ?_) | (with_reducible refine x_lens ?_) | (with_reducible refine x_eqb ?_) | (with_reducible refine x_neb ?_) | (with_reducible refine x_nilP ?_) | (with_reducible refine x_nilPn ?_) | (with_reducible refine x_nilF ?_) | (with_reducible refine x_nilFF ?_) | (with_reducible refine w_eqlL ?_) | (with_reducible refine w_neqL ?_) | (with_reducible refine s_eqlL ?_) | (with_reducible refine ifnt ?_) | (with_reducible refine ifnf ?_) | (with_reducible refine x_eqB ?_) | (with_reducible refine x_neB ?_) | (with_reducible refine x_lssL ?_) | (with_reducible refine x_gtrL ?_) | (with_reducible refine x_geqL ?_) | (with_reducible refine s_neqL ?_) | (with_reducible refine St.load h ?_) | (with_reducible refine St.loadS h ?_) | (with_reducible refine a_fld0 ?_) | (with_reducible refine St.store h fun W h => ?_) | (with_reducible refine St.storeS h fun W h => ?_) | (with_reducible refine St.alloc h fun b W h => ?_) | (with_reducible refine St.allocS h fun b W h => ?_) | (with_reducible refine a_nil ?_) | (with_reducible refine ss_load ?_) | (with_reducible refine ss_loadS ?_) | (with_reducible refine ss_eqb ?_)))
    refine ifd (fun he => ?_) fun he => ?_
    · refine begins_spec (a_not (ifnb (fun hb => ?_) fun hb => ?_))
      · refine fail_spec (r := (r.see 0).2) (c := c) h fun W h => ⟨rfl, ?_⟩
        rw [he, hb] at hF
        rw [← hF]; exact h
      · refine ⟨rfl, ?_⟩
        rw [hb] at hF
        rw [show F = (r.see 0).2 by rw [← hF]; simp]; exact h
    · refine ⟨rfl, ?_⟩
      rw [show F = (r.see 0).2 by rw [← hF]; simp [he]]; exact h
/-- full: a name, maybe with a prefix -/
theorem full_spec [i : Has l b (Xo r c) R] (h : St w0 G l W) (hle : r.at_ ≤ r.s.length) (hs : r.s.length ≤ 1000000) (k : ∀ W', St w0 G (Ky b (Xo r.full.2 c) :: R) W' → RR (.agg #[strV r.full.1.1, strV r.full.1.2]) W') : CallF Tryz.prog 75 #[.pointer (some ⟨b, 0, none⟩)] W RR := by
  refine sh75_calls ?_
  unfold sh75
  replace h := h.find (k := b) (X := Xo r c)
  unfold XRd.full at k
  dsimp only at k
  refine h.allocS fun f W h => ?_
  refine name_spec (r := r) (c := c) h hle hs fun W h => ?_
  have hn := XRd.name_le hle
  have hst := XRd.stp_name hle
  have hsl : r.nameOf.2.s.length = r.s.length := by rw [hst.s]
  generalize r.nameOf = q at *
  obtain ⟨t, q⟩ := q
  simp only at *
  have out : (q.e ≠ 0 ∨ q.s[q.at_]? ≠ some 58) → ∀ W, St w0 G (Ky b (Xo q c) :: Ky f (Ob (.cells [strV [], strV []].toArray 118 (0, 0))) :: R) W → RunV Tryz.prog (Instr.build 118 #[(0, (.string ⟨#[]⟩)), (1, strV t)]) W fun t36 w => RunU Tryz.prog (Instr.storeAt 118 (.pointer (some ⟨f, 0, none⟩)) t36) w fun w => RunW Tryz.prog (Instr.loadAt 118 (.pointer (some ⟨f, 0, none⟩))) w fun t2 => RR t2 w := fun hc W h => by
    rw [if_pos hc] at k
    refine x_bld (cells := [strV [], strV t].toArray) rfl ?_
    (repeat (first | (with_reducible refine ift ?_) | (with_reducible refine iff' ?_) | (with_reducible refine a_lss ?_) | (with_reducible refine a_leq ?_) | (with_reducible refine a_gtr ?_) | (with_reducible refine a_geq ?_) | (with_reducible refine w_eql ?_) | (with_reducible refine w_neq ?_) | (with_reducible refine s_eql ?_) | (with_reducible refine s_neq ?_) | ((with_reducible refine a_add64 ?h0 ?h1 ?_); (case h0 => omega); (case h1 => omega);  skip) | ((with_reducible refine a_sub64 ?h0 ?h1 ?_); (case h0 => omega); (case h1 => omega);  skip) | ((with_reducible refine a_mul64 ?h0 ?h1 ?_); (case h0 => omega); (case h1 => omega);  skip) | (with_reducible refine a_notd ?_) | (with_reducible refine a_not ?_) | (with_reducible refine a_ext0 ?_) | (with_reducible refine a_ext1 ?_) | (with_reducible refine a_ext2 ?_) | (with_reducible refine x_len ?_) | (with_reducible refine x_lens ?_) | (with_reducible refine x_eqb ?_) | (with_reducible refine x_neb ?_) | (with_reducible refine x_nilP ?_) | (with_reducible refine x_nilPn ?_) | (with_reducible refine x_nilF ?_) | (with_reducible refine x_nilFF ?_) | (with_reducible refine w_eqlL ?_) | (with_reducible refine w_neqL ?_) | (with_reducible refine s_eqlL ?_) | (with_reducible refine ifnt ?_) | (with_reducible refine ifnf ?_) | (with_reducible refine x_eqB ?_) | (with_reducible refine x_neB ?_) | (with_reducible refine x_lssL ?_) | (with_reducible refine x_gtrL ?_) | (with_reducible refine x_geqL ?_) | (with_reducible refine s_neqL ?_) | (with_reducible refine St.load h ?_) | (with_reducible refine St.loadS h ?_) | (with_reducible refine a_fld0 ?_) | (with_reducible refine St.store h fun W h => ?_) | (with_reducible refine St.storeS h fun W h => ?_) | (with_reducible refine St.alloc h fun b W h => ?_) | (with_reducible refine St.allocS h fun b W h => ?_) | (with_reducible refine a_nil ?_) | (with_reducible refine ss_load ?_) | (with_reducible refine ss_loadS ?_) | (with_reducible refine ss_eqb ?_)))
    exact k _ h.to
  refine ⟨St w0 G _, h.drew, ?_⟩
  replace h := h.drew
  (repeat (first | (with_reducible refine ift ?_) | (with_reducible refine iff' ?_) | (with_reducible refine a_lss ?_) | (with_reducible refine a_leq ?_) | (with_reducible refine a_gtr ?_) | (with_reducible refine a_geq ?_) | (with_reducible refine w_eql ?_) | (with_reducible refine w_neq ?_) | (with_reducible refine s_eql ?_) | (with_reducible refine s_neq ?_) | ((with_reducible refine a_add64 ?h0 ?h1 ?_); (case h0 => omega); (case h1 => omega);  skip) | ((with_reducible refine a_sub64 ?h0 ?h1 ?_); (case h0 => omega); (case h1 => omega);  skip) | ((with_reducible refine a_mul64 ?h0 ?h1 ?_); (case h0 => omega); (case h1 => omega);  skip) | (with_reducible refine a_notd ?_) | (with_reducible refine a_not ?_) | (with_reducible refine a_ext0 ?_) | (with_reducible refine a_ext1 ?_) | (with_reducible refine a_ext2 ?_) | (with_reducible refine x_len ?_) | (with_reducible refine x_lens ?_) | (with_reducible refine x_eqb ?_) | (with_reducible refine x_neb ?_) | (with_reducible refine x_nilP ?_) | (with_reducible refine x_nilPn ?_) | (with_reducible refine x_nilF ?_) | (with_reducible refine x_nilFF ?_) | (with_reducible refine w_eqlL ?_) | (with_reducible refine w_neqL ?_) | (with_reducible refine s_eqlL ?_) | (with_reducible refine ifnt ?_) | (with_reducible refine ifnf ?_) | (with_reducible refine x_eqB ?_) | (with_reducible refine x_neB ?_) | (with_reducible refine x_lssL ?_) | (with_reducible refine x_gtrL ?_) | (with_reducible refine x_geqL ?_) | (with_reducible refine s_neqL ?_) | (with_reducible refine St.load h ?_) | (with_reducible refine St.loadS h ?_) | (with_reducible refine a_fld0 ?_) | (with_reducible refine St.store h fun W h => ?_) | (with_reducible refine St.storeS h fun W h => ?_) | (with_reducible refine St.alloc h fun b W h => ?_) | (with_reducible refine St.allocS h fun b W h => ?_) | (with_reducible refine a_nil ?_) | (with_reducible refine ss_load ?_) | (with_reducible refine ss_loadS ?_) | (with_reducible refine ss_eqb ?_)))
  refine ifd (fun he => out (.inl he) _ h) fun he => ?_
  (repeat (first | (with_reducible refine ift ?_) | (with_reducible refine iff' ?_) | (with_reducible refine a_lss ?_) | (with_reducible refine a_leq ?_) | (with_reducible refine a_gtr ?_) | (with_reducible refine a_geq ?_) | (with_reducible refine w_eql ?_) | (with_reducible refine w_neq ?_) | (with_reducible refine s_eql ?_) | (with_reducible refine s_neq ?_) | ((with_reducible refine a_add64 ?h0 ?h1 ?_); (case h0 => omega); (case h1 => omega);  skip) | ((with_reducible refine a_sub64 ?h0 ?h1 ?_); (case h0 => omega); (case h1 => omega);  skip) | ((with_reducible refine a_mul64 ?h0 ?h1 ?_); (case h0 => omega); (case h1 => omega);  skip) | (with_reducible refine a_notd ?_) | (with_reducible refine a_not ?_) | (with_reducible refine a_ext0 ?_) | (with_reducible refine a_ext1 ?_) | (with_reducible refine a_ext2 ?_) | (with_reducible refine x_len ?_) | (with_reducible refine x_lens ?_) | (with_reducible refine x_eqb ?_) | (with_reducible refine x_neb ?_) | (with_reducible refine x_nilP ?_) | (with_reducible refine x_nilPn ?_) | (with_reducible refine x_nilF ?_) | (with_reducible refine x_nilFF ?_) | (with_reducible refine w_eqlL ?_) | (with_reducible refine w_neqL ?_) | (with_reducible refine s_eqlL ?_) | (with_reducible refine ifnt ?_) | (with_reducible refine ifnf ?_) | (with_reducible refine x_eqB ?_) | (with_reducible refine x_neB ?_) | (with_reducible refine x_lssL ?_) | (with_reducible refine x_gtrL ?_) | (with_reducible refine x_geqL ?_) | (with_reducible refine s_neqL ?_) | (with_reducible refine St.load h ?_) | (with_reducible refine St.loadS h ?_) | (with_reducible refine a_fld0 ?_) | (with_reducible refine St.store h fun W h => ?_) | (with_reducible refine St.storeS h fun W h => ?_) | (with_reducible refine St.alloc h fun b W h => ?_) | (with_reducible refine St.allocS h fun b W h => ?_) | (with_reducible refine a_nil ?_) | (with_reducible refine ss_load ?_) | (with_reducible refine ss_loadS ?_) | (with_reducible refine ss_eqb ?_)))
  refine ifd (fun hc => out (.inr (by rw [List.getElem?_eq_none (by omega)]; simp)) _ h) fun hc => ?_
  have hx : q.s[q.at_]? = some q.s[q.at_] := List.getElem?_eq_getElem (by omega)
  generalize q.s[q.at_] = x at hx
  (repeat (first | (with_reducible refine ift ?_) | (with_reducible refine iff' ?_) | (with_reducible refine a_lss ?_) | (with_reducible refine a_leq ?_) | (with_reducible refine a_gtr ?_) | (with_reducible refine a_geq ?_) | (with_reducible refine w_eql ?_) | (with_reducible refine w_neq ?_) | (with_reducible refine s_eql ?_) | (with_reducible refine s_neq ?_) | ((with_reducible refine a_add64 ?h0 ?h1 ?_); (case h0 => omega); (case h1 => omega);  skip) | ((with_reducible refine a_sub64 ?h0 ?h1 ?_); (case h0 => omega); (case h1 => omega);  skip) | ((with_reducible refine a_mul64 ?h0 ?h1 ?_); (case h0 => omega); (case h1 => omega);  skip) | (with_reducible refine a_notd ?_) | (with_reducible refine a_not ?_) | (with_reducible refine a_ext0 ?_) | (with_reducible refine a_ext1 ?_) | (with_reducible refine a_ext2 ?_) | (with_reducible refine x_len ?_) | (with_reducible refine x_lens ?_) | (with_reducible refine x_eqb ?_) | (with_reducible refine x_neb ?_) | (with_reducible refine x_nilP ?_) | (with_reducible refine x_nilPn ?_) | (with_reducible refine x_nilF ?_) | (with_reducible refine x_nilFF ?_) | (with_reducible refine w_eqlL ?_) | (with_reducible refine w_neqL ?_) | (with_reducible refine s_eqlL ?_) | (with_reducible refine ifnt ?_) | (with_reducible refine ifnf ?_) | (with_reducible refine x_eqB ?_) | (with_reducible refine x_neB ?_) | (with_reducible refine x_lssL ?_) | (with_reducible refine x_gtrL ?_) | (with_reducible refine x_geqL ?_) | (with_reducible refine s_neqL ?_) | (with_reducible refine St.load h ?_) | (with_reducible refine St.loadS h ?_) | (with_reducible refine a_fld0 ?_) | (with_reducible refine St.store h fun W h => ?_) | (with_reducible refine St.storeS h fun W h => ?_) | (with_reducible refine St.alloc h fun b W h => ?_) | (with_reducible refine St.allocS h fun b W h => ?_) | (with_reducible refine a_nil ?_) | (with_reducible refine ss_load ?_) | (with_reducible refine ss_loadS ?_) | (with_reducible refine ss_eqb ?_)))
  refine x_index hx ?_
  refine s_neq ?_
  refine ifd (fun h58 => out (.inr (by rw [hx]; intro e; cases e; exact h58 (by decide))) _ h) fun h58 => ?_
  have hx58 : x = 58 := by
    rw [← UInt8.toNat_inj]
    show x.toNat = 58
    omega
  subst hx58
  rw [if_neg (by rintro (a | a); exact a (Classical.not_not.1 he); exact a hx)] at k
  (repeat (first | (with_reducible refine ift ?_) | (with_reducible refine iff' ?_) | (with_reducible refine a_lss ?_) | (with_reducible refine a_leq ?_) | (with_reducible refine a_gtr ?_) | (with_reducible refine a_geq ?_) | (with_reducible refine w_eql ?_) | (with_reducible refine w_neq ?_) | (with_reducible refine s_eql ?_) | (with_reducible refine s_neq ?_) | ((with_reducible refine a_add64 ?h0 ?h1 ?_); (case h0 => omega); (case h1 => omega);  skip) | ((with_reducible refine a_sub64 ?h0 ?h1 ?_); (case h0 => omega); (case h1 => omega);  skip) | ((with_reducible refine a_mul64 ?h0 ?h1 ?_); (case h0 => omega); (case h1 => omega);  skip) | (with_reducible refine a_notd ?_) | (with_reducible refine a_not ?_) | (with_reducible refine a_ext0 ?_) | (with_reducible refine a_ext1 ?_) | (with_reducible refine a_ext2 ?_) | (with_reducible refine x_len ?_) | (with_reducible refine x_lens ?_) | (with_reducible refine x_eqb ?_) | (with_reducible refine x_neb ?_) | (with_reducible refine x_nilP ?_) | (with_reducible refine x_nilPn ?_) | (with_reducible refine x_nilF ?_) | (with_reducible refine x_nilFF ?_) | (with_reducible refine w_eqlL ?_) | (with_reducible refine w_neqL ?_) | (with_reducible refine s_eqlL ?_) | (with_reducible refine ifnt ?_) | (with_reducible refine ifnf ?_) | (with_reducible refine x_eqB ?_) | (with_reducible refine x_neB ?_) | (with_reducible refine x_lssL ?_) | (with_reducible refine x_gtrL ?_) | (with_reducible refine x_geqL ?_) | (with_reducible refine s_neqL ?_) | (with_reducible refine St.load h ?_) | (with_reducible refine St.loadS h ?_) | (with_reducible refine a_fld0 ?_) | (with_reducible refine St.store h fun W h => ?_) | (with_reducible refine St.storeS h fun W h => ?_) | (with_reducible refine St.alloc h fun b W h => ?_) | (with_reducible refine St.allocS h fun b W h => ?_) | (with_reducible refine a_nil ?_) | (with_reducible refine ss_load ?_) | (with_reducible refine ss_loadS ?_) | (with_reducible refine ss_eqb ?_)))
  refine name_spec (r := q.on 1) (c := c) h (by show q.at_ + 1 ≤ q.s.length; omega) (by show q.s.length ≤ _; omega) fun W h => ?_
  refine x_bld (cells := [strV t, strV (q.on 1).nameOf.1].toArray) rfl ?_
  (repeat (first | (with_reducible refine ift ?_) | (with_reducible refine iff' ?_) | (with_reducible refine a_lss ?_) | (with_reducible refine a_leq ?_) | (with_reducible refine a_gtr ?_) | (with_reducible refine a_geq ?_) | (with_reducible refine w_eql ?_) | (with_reducible refine w_neq ?_) | (with_reducible refine s_eql ?_) | (with_reducible refine s_neq ?_) | ((with_reducible refine a_add64 ?h0 ?h1 ?_); (case h0 => omega); (case h1 => omega);  skip) | ((with_reducible refine a_sub64 ?h0 ?h1 ?_); (case h0 => omega); (case h1 => omega);  skip) | ((with_reducible refine a_mul64 ?h0 ?h1 ?_); (case h0 => omega); (case h1 => omega);  skip) | (with_reducible refine a_notd ?_) | (with_reducible refine a_not ?_) | (with_reducible refine a_ext0 ?_) | (with_reducible refine a_ext1 ?_) | (with_reducible refine a_ext2 ?_) | (with_reducible refine x_len ?_) | (with_reducible refine x_lens ?_) | (with_reducible refine x_eqb ?_) | (with_reducible refine x_neb ?_) | (with_reducible refine x_nilP ?_) | (with_reducible refine x_nilPn ?_) | (with_reducible refine x_nilF ?_) | (with_reducible refine x_nilFF ?_) | (with_reducible refine w_eqlL ?_) | (with_reducible refine w_neqL ?_) | (with_reducible refine s_eqlL ?_) | (with_reducible refine ifnt ?_) | (with_reducible refine ifnf ?_) | (with_reducible refine x_eqB ?_) | (with_reducible refine x_neB ?_) | (with_reducible refine x_lssL ?_) | (with_reducible refine x_gtrL ?_) | (with_reducible refine x_geqL ?_) | (with_reducible refine s_neqL ?_) | (with_reducible refine St.load h ?_) | (with_reducible refine St.loadS h ?_) | (with_reducible refine a_fld0 ?_) | (with_reducible refine St.store h fun W h => ?_) | (with_reducible refine St.storeS h fun W h => ?_) | (with_reducible refine St.alloc h fun b W h => ?_) | (with_reducible refine St.allocS h fun b W h => ?_) | (with_reducible refine a_nil ?_) | (with_reducible refine ss_load ?_) | (with_reducible refine ss_loadS ?_) | (with_reducible refine ss_eqb ?_)))
  exact k _ h.to
end
end Go.Proofs.YtlflpbflpcmckaaGreatDoor
namespace Go.Ez
open Go Go.Proofs Go.RowKit
set_option linter.unusedSimpArgs false
set_option linter.unusedVariables false
section
variable {P : Program} {w0 W W' : World} {G : Nat → Prop} {l R : List As} {K : Value → Prop} {KW : Value → World → Prop}
/-- '[]byte(s)': the bytes, kept as they are -/
theorem St.ofStr {src dst e : TypeId} {s : List UInt8} [U0 : Und P src .string] [U : Und P dst (.slice e)] [U1 : Und P e (.int .u8)] (h : St w0 G l W) (k : ∀ v W', Cel1 v → St w0 G (Ky v (Rd 1 s.length (bytesV s)) :: l) W' → KW v W') : RunV P (convert src dst (.string ⟨s.toArray⟩)) W KW := by
  have hsz : (⟨s.toArray⟩ : ByteArray).size = s.length := by show s.toArray.size = _; simp
  refine .of (Lib.run_convert_string_bytes W src dst e ⟨s.toArray⟩ U0.eq U.eq U1.eq) (k _ _ ⟨rfl⟩ ?_)
  rw [hsz]
  have hb : Below W.heap.size W (Lib.bytesWorld W e ⟨s.toArray⟩) := by
    refine ⟨?_, ?_, ?_, by rw [Lib.bytesWorld_size]; omega, fun k hk => Lib.bytesWorld_at_old W e _ k hk⟩ <;>
      (unfold Lib.bytesWorld World.freeze; simp [World.alloc, World.drew, -World.alloc_eq, -World.drew_eq])
  refine h.new (F := fun x => x = W.heap.size ∧ bytesV s ≠ []) hb ⟨fun x => ?_, ?_⟩ fun x hx => by rw [hx.1]; exact Nat.le_refl _
  · show (x = W.heap.size ∧ bytesV s ≠ []) ↔ (some W.heap.size = some x ∧ bytesV s ≠ [])
    exact ⟨fun h => ⟨by rw [h.1], h.2⟩, fun h => ⟨(Option.some.inj h.1).symm, h.2⟩⟩
  · refine ⟨some ⟨W.heap.size, 0, none⟩, _, rfl, ?_, by simp [bytesV], fun j u hj => ⟨W.heap.size, 0, rfl, ?_⟩, fun h => by cases h⟩
    · have := grownCap_ge W s.length 0 e
      exact this
    · rw [Nat.zero_add]
      have hjl : j < s.length := by have := (List.getElem?_eq_some_iff.1 hj).1; simpa [bytesV] using this
      have := Lib.bytesWorld_cell W e ⟨s.toArray⟩ j (by rw [hsz]; exact hjl)
      rw [this]
      rw [bytesV, List.getElem?_map, List.getElem?_eq_getElem hjl] at hj
      cases hj
      simp [byteV, List.getD, List.getElem?_eq_getElem hjl]
/-- bytes written out, converted: kept as they are -/
theorem St.markB {v : Value} {t e : TypeId} {n : Nat} {cs : List Value} [i : Has l v (Ow e 1 n cs) R] [U : Und P t (.slice e)] [U1 : Und P e (.int .u8)] (h : St w0 G l W) (hn : n ≠ 0) (k : ∀ W', St w0 G (Ky v (Rd 1 n cs) :: R) W' → KW v W') : RunV P (convert t t v) W KW := by
  rcases h.openOw (v := v) with ⟨_, h0, _⟩ | ⟨g, cap, cur, rfl, hnc, hcm, hcl, htk, h⟩
  · exact absurd h0 hn
  have hg := h.ob (b := g) (o := .cells cur.toArray e (0, 0))
  have hgl := (Array.getElem?_eq_some_iff.1 hg).1
  have hfz : (W.freeze ⟨g, cur.toArray.size, none⟩ 1).heap[g]? = some (.cells cur.toArray e (cur.toArray.size, cur.toArray.size + 1)) := by
    unfold World.freeze
    simp [Array.getElem?_modify, hg]
  have hrun : (convert t t (.slice (some ⟨g, 0, none⟩) n cap)).run P W = .ok (.slice (some ⟨g, 0, none⟩) n cap) (W.freeze ⟨g, cur.toArray.size, none⟩ 1) := by
    simp only [convert, Sem.run_bind, run_underlying U.eq, Result.andThen, beq_self_eq_true, run_underlying U1.eq]
    have hsh : W.shape? g = some (e, cur.toArray.size) := by simp [World.shape?, hg]
    simp [markStringish, shape, freeze, Sem.run, hsh, Result.andThen]
  refine .of hrun (k _ ?_)
  have hmod : Mod [g] W (W.freeze ⟨g, cur.toArray.size, none⟩ 1) := by
    unfold World.freeze
    exact ⟨rfl, rfl, rfl, by simp, fun k _ hk => by
      simp only [Nat.one_ne_zero, if_false, Array.getElem?_modify]
      rw [if_neg (fun e => hk (by simp [e]))]⟩
  have h2 := h.setB (b := g) (o := .cells cur.toArray e (0, 0)) hmod hfz
  refine h2.conv fun F hF => ?_
  have hF' : (∀ x, F x ↔ x = g) ∧ (W.freeze ⟨g, cur.toArray.size, none⟩ 1).heap[g]? = some (.cells cur.toArray e (cur.toArray.size, cur.toArray.size + 1)) := hF
  have hcs : cs ≠ [] := by
    intro hx
    rw [hx] at htk
    have := congrArg List.length htk
    rw [List.length_take, hcl] at this
    simp at this; omega
  refine ⟨fun x => ?_, some ⟨g, 0, none⟩, cap, rfl, hnc, ?_, fun j u hj => ⟨g, 0, rfl, ?_⟩, by simp⟩
  · rw [hF'.1 x]
    simp [Value.ownBlock, hcs, eq_comm]
  · rw [← htk, List.length_take, hcl]
    exact Nat.min_eq_left (Nat.mul_le_mul_right _ hnc)
  · rw [← htk, List.getElem?_take] at hj
    split at hj
    · unfold World.cell?
      rw [hF'.2]
      simp [hj]
    · cases hj
end
section
variable {P : Program} {w : World} {K : Value → Prop} {KW : Value → World → Prop} {t : TypeId} {X : Operand} {c : Value}
theorem w_neC {Y : Operand} {c : UInt8} (d : UInt8) {n : Int} (hn : n = (d.toNat : Int)) (h : K (.bool (decide (c ≠ d)))) : RunW P (bin .neq t X Y (byteV c) (.int .u8 n)) w K := by
  subst hn; exact x_neB (b := d) h
theorem w_eqC {Y : Operand} {c : UInt8} (d : UInt8) {n : Int} (hn : n = (d.toNat : Int)) (h : K (.bool (decide (c = d)))) : RunW P (bin .eql t X Y (byteV c) (.int .u8 n)) w K := by
  subst hn; exact x_eqB (b := d) h
theorem x_neNil0 {ms : Array (String × TypeId)} [i : Und P t (.interface ms)] (h : K (.bool false)) : RunW P (bin .neq t X (.const c) .nilIface .nilIface) w K :=
  .of (by
    have hu := i.eq
    have he : (Op.equal t .nilIface .nilIface).run P w = .ok true w := by
      have h : ∀ d, (Op.equalIn (d + 1) t .nilIface .nilIface).run P w = .ok true w := fun d => by simp [Op.equalIn, run_underlying hu]
      exact h 9999
    show (do eqGuard .neq t X (.const c) .nilIface .nilIface; pure (Value.bool (!(← Op.equal t .nilIface .nilIface))) : Sem Value).run P w = _
    simp [eqGuard, he]) h
theorem x_neNil1 {u : TypeId} {x : Value} {ms : Array (String × TypeId)} [i : Und P t (.interface ms)] (h : K (.bool true)) : RunW P (bin .neq t X (.const c) (.iface u x) .nilIface) w K :=
  .of (by
    have hu := i.eq
    have he : (Op.equal t (.iface u x) .nilIface).run P w = .ok false w := by
      have h : ∀ d, (Op.equalIn (d + 1) t (.iface u x) .nilIface).run P w = .ok false w := fun d => by simp [Op.equalIn, run_underlying hu]
      exact h 9999
    show (do eqGuard .neq t X (.const c) (.iface u x) .nilIface; pure (Value.bool (!(← Op.equal t (.iface u x) .nilIface))) : Sem Value).run P w = _
    simp [eqGuard, he]) h
end
end Go.Ez
namespace Go.Ez
open Go Go.Lib
set_option linter.unusedSimpArgs false
set_option linter.unusedVariables false
/-- a sign's bytes -/
def utf (n : Nat) : Txt := encodeRune (n : Int)
/-- is what a text begins with a sign? -/
def badL (l : Txt) : Prop := (decodeL l).1 = 65533 ∧ (decodeL l).2 = 1
theorem dec_ascii {c : UInt8} {r : Txt} (h : c.toNat < 128) : decodeL (c :: r) = (c.toNat, 1) := by
  rw [decodeL_N]
  unfold decodeN
  simp [h]
theorem dec_facts (l : Txt) (hne : l ≠ []) : (¬ badL l → (decodeL l).2 ≤ l.length) ∧ 1 ≤ (decodeL l).2 ∧ (decodeL l).1 ≤ 1114111 ∧
    (128 ≤ (l.getD 0 0).toNat → 128 ≤ (decodeL l).1 ∧ (¬ badL l → 2 ≤ (decodeL l).2 ∧ (decodeL l).2 ≤ 4 ∧ ∀ j, j < (decodeL l).2 → 128 ≤ (l.getD j 0).toNat)) := by
  have hl : 0 < l.length := List.length_pos_iff.2 hne
  have h0 := (l.getD 0 0).toNat_lt; have h1 := (l.getD 1 0).toNat_lt; have h2 := (l.getD 2 0).toNat_lt; have h3 := (l.getD 3 0).toNat_lt
  have hj : ∀ j, j < 4 → (j = 0 ∨ j = 1 ∨ j = 2 ∨ j = 3) := fun j h => by omega
  unfold badL
  rw [decodeL_N]
  generalize l.length = n at *
  generalize e0 : (l.getD 0 0).toNat = b0 at *
  generalize e1 : (l.getD 1 0).toNat = b1 at *
  generalize e2 : (l.getD 2 0).toNat = b2 at *
  generalize e3 : (l.getD 3 0).toNat = b3 at *
  unfold decodeN
  by_cases c1 : b0 < 128
  · simp only [c1, if_true]
    refine ⟨fun _ => by omega, by omega, by omega, fun h => by omega⟩
  · simp only [c1, if_false]
    by_cases c2 : b0 / 32 = 6 ∧ (1 < n ∧ b1 / 64 = 2)
    · simp only [c2, and_self, if_true]
      split
      · refine ⟨fun _ => by omega, by simp, by simp only; omega, fun _ => ⟨by simp only; omega, fun _ => ⟨by simp, by simp, fun j hj2 => ?_⟩⟩⟩
        simp only at hj2
        rcases hj j (by omega) with rfl | rfl | rfl | rfl <;> omega
      · refine ⟨fun hb => absurd ⟨rfl, rfl⟩ hb, by simp, by simp, fun _ => ⟨by simp, fun hb => absurd ⟨rfl, rfl⟩ hb⟩⟩
    · rw [if_neg c2]
      by_cases c3 : b0 / 16 = 14 ∧ (1 < n ∧ b1 / 64 = 2) ∧ (2 < n ∧ b2 / 64 = 2)
      · rw [if_pos c3]
        split
        · refine ⟨fun _ => by simp only; omega, by simp, by simp only; omega, fun _ => ⟨by simp only; omega, fun _ => ⟨by simp, by simp, fun j hj2 => ?_⟩⟩⟩
          simp only at hj2
          rcases hj j (by omega) with rfl | rfl | rfl | rfl <;> omega
        · refine ⟨fun hb => absurd ⟨rfl, rfl⟩ hb, by simp, by simp, fun _ => ⟨by simp, fun hb => absurd ⟨rfl, rfl⟩ hb⟩⟩
      · rw [if_neg c3]
        by_cases c4 : b0 / 8 = 30 ∧ (1 < n ∧ b1 / 64 = 2) ∧ (2 < n ∧ b2 / 64 = 2) ∧ (3 < n ∧ b3 / 64 = 2)
        · rw [if_pos c4]
          split
          · refine ⟨fun _ => by simp only; omega, by simp, by simp only; omega, fun _ => ⟨by simp only; omega, fun _ => ⟨by simp, by simp, fun j hj2 => ?_⟩⟩⟩
            simp only at hj2
            rcases hj j (by omega) with rfl | rfl | rfl | rfl <;> omega
          · refine ⟨fun hb => absurd ⟨rfl, rfl⟩ hb, by simp, by simp, fun _ => ⟨by simp, fun hb => absurd ⟨rfl, rfl⟩ hb⟩⟩
        · rw [if_neg c4]
          refine ⟨fun hb => absurd ⟨rfl, rfl⟩ hb, by simp, by simp, fun _ => ⟨by simp, fun hb => absurd ⟨rfl, rfl⟩ hb⟩⟩
/-- a sign that stands at the front: below 128, or of some bytes from 128 on -/
theorem sign_cases {l : Txt} (hne : l ≠ []) (hg : ¬ badL l) :
    (∃ c r, l = c :: r ∧ c.toNat < 128 ∧ decodeL l = (c.toNat, 1)) ∨
    (128 ≤ (decodeL l).1 ∧ (decodeL l).1 ≤ 1114111 ∧ 2 ≤ (decodeL l).2 ∧ (decodeL l).2 ≤ 4 ∧ (decodeL l).2 ≤ l.length ∧ (∀ b ∈ l.take (decodeL l).2, 128 ≤ b.toNat) ∧ utf (decodeL l).1 = l.take (decodeL l).2) := by
  obtain ⟨f1, f2, f3, f4⟩ := dec_facts l hne
  cases l with
  | nil => exact absurd rfl hne
  | cons c r =>
    by_cases hc : c.toNat < 128
    · exact .inl ⟨c, r, rfl, hc, dec_ascii hc⟩
    · have hc' : 128 ≤ ((c :: r).getD 0 0).toNat := by simpa using hc
      obtain ⟨g1, g2⟩ := f4 hc'
      obtain ⟨g3, g4, g5⟩ := g2 hg
      refine .inr ⟨g1, f3, g3, g4, f1 hg, fun b hb => ?_, encode_decode _ hne hg⟩
      obtain ⟨j, hj, e⟩ := List.getElem_of_mem hb
      have hjw : j < (decodeL (c :: r)).2 := by rw [List.length_take] at hj; omega
      have := g5 j hjw
      have hjl : j < (c :: r).length := by rw [List.length_take] at hj; omega
      rw [List.getElem_take] at e
      rw [List.getD_eq_getElem?_getD, List.getElem?_eq_getElem hjl] at this
      simp only [Option.getD_some] at this
      rw [← e]; exact this
theorem valid_next {l : Txt} (hne : l ≠ []) (hv : validD l = true) : ¬ badL l ∧ validD (l.drop (decodeL l).2) = true := by
  rw [validD_step l hne] at hv
  split at hv
  · cases hv
  · rename_i h; exact ⟨h, hv⟩
end Go.Ez
namespace Go.Ez
open Go Go.Proofs Go.RowKit Go.Lib
set_option linter.unusedSimpArgs false
set_option linter.unusedVariables false
theorem utf_len (n : Nat) : 1 ≤ (utf n).length ∧ (utf n).length ≤ 4 := by
  have := encodeRuneZ_length (n : Int)
  unfold utf encodeRune
  rw [List.length_map]; exact this
section
variable {P : Program} {w : World} {KW : Value → World → Prop} {k' : IntKind}
theorem x_nat {src dst : TypeId} {d0 : TypeDesc} {k : IntKind} {n : Nat} [u : Und P src d0] [u' : Und P dst (.int k)] (hn : (n : Int) ≤ k.max) (h : KW (nV k n) w) : RunV P (convert src dst (nV k' n)) w KW := v_convN u.eq u'.eq hn h
end
theorem le_u8 {n : Nat} (h : n < 256) : (n : Int) ≤ IntKind.u8.max := by simp only [IntKind.max, IntKind.bits, IntKind.signed]; simp; omega
theorem le_i32 {n : Nat} (h : n ≤ 2147483647) : (n : Int) ≤ IntKind.i32.max := by simp only [IntKind.max, IntKind.bits, IntKind.signed]; simp; omega
theorem le_i64 {n : Nat} (h : n ≤ 2147483647) : (n : Int) ≤ IntKind.i64.max := by simp only [IntKind.max, IntKind.bits, IntKind.signed]; simp; omega
end Go.Ez
namespace Go.Proofs.YtlflpbflpcmckaaGreatDoor
open Go Go.Ez Go.RowKit Go.Lib
set_option linter.unusedSimpArgs false
set_option linter.unusedVariables false
section
variable {w0 W W' : World} {G : Nat → Prop} {l R : List As} {RR : Value → World → Prop} {t s : Txt} {c : UInt8} {b n : Nat} {v : Value}
/-- utf8.ValidRune -/
theorem vrune_spec {r : Int} (k : RR (.bool (validRune r)) W) : CallF Tryz.prog 139 #[.int .i32 r] W RR := by
  refine sh139_calls ?_
  unfold sh139
  have yes : (0 ≤ r ∧ r < 55296) ∨ (57343 < r ∧ r ≤ 1114111) → RR (.bool true) W := fun hc => by
    have : validRune r = true := decide_eq_true hc
    rw [this] at k; exact k
  have no : ¬ ((0 ≤ r ∧ r < 55296) ∨ (57343 < r ∧ r ≤ 1114111)) → RR (.bool false) W := fun hc => by
    have : validRune r = false := decide_eq_false hc
    rw [this] at k; exact k
  refine jni (fun vs W' => vs = [] ∧ ¬ ((0 ≤ r ∧ r < 55296) ∨ (57343 < r ∧ r ≤ 1114111)) ∧ W' = W) (by rintro vs W' _ ⟨rfl, hc, rfl⟩; exact no hc) ?_
  have part : ¬ (0 ≤ r ∧ r < 55296) → jn 0 (fun w => lamN 0 (fun vs w => vs = [] ∧ ¬ ((0 ≤ r ∧ r < 55296) ∨ (57343 < r ∧ r ≤ 1114111)) ∧ w = W) w) fun j => RunA Tryz.prog (bin .lss 21 (.const (.int .i32 57343)) (.tmp 11) (.int .i32 57343) (.int .i32 r)) fun t12 => IfB t12 (RunA Tryz.prog (bin .leq 21 (.tmp 14) (.const (.int .i32 1114111)) (.int .i32 r) (.int .i32 1114111)) fun t15 => IfB t15 (RR (.bool true) W) (j W)) (j W) := fun hn => by
    refine jni (fun vs W' => vs = [] ∧ ¬ ((0 ≤ r ∧ r < 55296) ∨ (57343 < r ∧ r ≤ 1114111)) ∧ W' = W) (by rintro vs W' _ ⟨rfl, hc, rfl⟩; exact ⟨rfl, hc, rfl⟩) ?_
    refine a_lss (ifd (fun h1 => a_leq (ifd (fun h2 => yes (.inr ⟨h1, h2⟩)) fun h2 => ?_)) fun h1 => ?_)
    · exact ⟨rfl, by omega, rfl⟩
    · exact ⟨rfl, by omega, rfl⟩
  refine a_leq (ifd (fun h1 => a_lss (ifd (fun h2 => yes (.inl ⟨h1, h2⟩)) fun h2 => ?_)) fun h1 => ?_)
  · exact part (by omega)
  · exact part (by omega)
theorem enc_utf {c : Nat} (h : (c < 55296) ∨ (57343 < c ∧ c ≤ 1114111)) : Utf8.encode (c : Int) = ⟨(utf c).toArray⟩ := by
  have hv : Utf8.valid (c : Int) = true := by unfold Utf8.valid; simp; omega
  unfold Utf8.encode utf encodeRune
  rw [if_pos hv]
  simp only [Int.toNat_natCast]
  by_cases h1 : c < 128
  · rw [if_pos h1, encodeRuneZ_one (by omega) (by omega)]
    simp
  · rw [if_neg h1]
    by_cases h2 : c < 2048
    · rw [if_pos h2, encodeRuneZ_two (by omega) (by omega)]
      simp only [List.map_cons, List.map_nil, show (192 + (c : Int) / 64).toNat = 192 + c / 64 by omega, show (128 + (c : Int) % 64).toNat = 128 + c % 64 by omega]
    · rw [if_neg h2]
      by_cases h3 : c < 65536
      · rw [if_pos h3, encodeRuneZ_three (by omega)]
        simp only [List.map_cons, List.map_nil, show (224 + (c : Int) / 4096).toNat = 224 + c / 4096 by omega, show (128 + (c : Int) / 64 % 64).toNat = 128 + c / 64 % 64 by omega, show (128 + (c : Int) % 64).toNat = 128 + c % 64 by omega]
      · rw [if_neg h3, encodeRuneZ_four (by omega) (by omega)]
        simp only [List.map_cons, List.map_nil, show (240 + (c : Int) / 262144).toNat = 240 + c / 262144 by omega, show (128 + (c : Int) / 4096 % 64).toNat = 128 + c / 4096 % 64 by omega, show (128 + (c : Int) / 64 % 64).toNat = 128 + c / 64 % 64 by omega, show (128 + (c : Int) % 64).toNat = 128 + c % 64 by omega]
/-- text.Sign -/
def signS (c : Int) : Txt × Bool := if (0 ≤ c ∧ c < 55296) ∨ (57343 < c ∧ c ≤ 1114111) then (utf c.toNat, true) else ([], false)
theorem tsign_spec {r : Int} (k : RR (.tuple #[strV (signS r).1, .bool (signS r).2]) W) : CallF Tryz.prog 158 #[.int .i64 r] W RR := by
  refine sh158_calls ?_
  unfold sh158
  have no : ¬ ((0 ≤ r ∧ r < 55296) ∨ (57343 < r ∧ r ≤ 1114111)) → RR (.tuple #[strV [], .bool false]) W := fun hc => by
    unfold signS at k; rw [if_neg hc] at k; exact k
  refine a_lss (ifd (fun h1 => no (by omega)) fun h1 => a_gtr (ifd (fun h2 => no (by omega)) fun h2 => ?_))
  obtain ⟨c, rfl⟩ := Int.eq_ofNat_of_zero_le (show 0 ≤ r by omega)
  refine x_nat (le_i32 (by omega)) (vrune_spec (a_not (ifnb (fun hv => ?_) fun hv => ?_)))
  · exact no (of_decide_eq_false hv)
  · have hc := of_decide_eq_true hv
    refine x_nat (le_i32 (by omega)) ?_
    refine .of (run_convert_int_string (P := Tryz.prog) W 21 9 .i32 (c : Int) (by kernel_rfl) Tryz.underlying9) ?_
    rw [enc_utf (by omega)]
    unfold signS at k
    rw [if_pos hc, Int.toNat_natCast] at k
    exact k
end
end Go.Proofs.YtlflpbflpcmckaaGreatDoor
namespace Go.Ez.XRd
open Go Go.Ez
/-- a digit's value, whatever the base -/
def dig0 (c : UInt8) : Option Nat := if 48 ≤ c.toNat ∧ c.toNat ≤ 57 then some (c.toNat - 48) else if 97 ≤ c.toNat ∧ c.toNat ≤ 122 then some (c.toNat - 87) else if 65 ≤ c.toNat ∧ c.toNat ≤ 90 then some (c.toNat - 55) else none
theorem digB_eq (B : Nat) (c : UInt8) : digB B c = match dig0 c with | some d => if d < B then some d else none | none => none := rfl
def parR (B : Nat) (s : Txt) : Nat × Bool := if s ≠ [] ∧ s.all (fun c => (digB B c).isSome) = true then (numB B s 0, true) else (0, false)
theorem low_some {c : UInt8} (h0 : ¬ (48 ≤ c.toNat ∧ c.toNat ≤ 57)) (h1 : 97 ≤ c.toNat ||| 32) (h2 : c.toNat ||| 32 ≤ 122) : dig0 c = some ((c.toNat ||| 32) - 87) := by
  have h : ∀ x : Fin 256, ¬ (48 ≤ (UInt8.ofNat x.val).toNat ∧ (UInt8.ofNat x.val).toNat ≤ 57) → 97 ≤ (UInt8.ofNat x.val).toNat ||| 32 → (UInt8.ofNat x.val).toNat ||| 32 ≤ 122 → dig0 (UInt8.ofNat x.val) = some (((UInt8.ofNat x.val).toNat ||| 32) - 87) := by decide +kernel
  have := h ⟨c.toNat, c.toNat_lt⟩
  simp only [UInt8.ofNat_toNat] at this
  exact this h0 h1 h2
theorem low_none {c : UInt8} (h0 : ¬ (48 ≤ c.toNat ∧ c.toNat ≤ 57)) (h1 : ¬ (97 ≤ c.toNat ||| 32 ∧ c.toNat ||| 32 ≤ 122)) : dig0 c = none := by
  have h : ∀ x : Fin 256, ¬ (48 ≤ (UInt8.ofNat x.val).toNat ∧ (UInt8.ofNat x.val).toNat ≤ 57) → ¬ (97 ≤ (UInt8.ofNat x.val).toNat ||| 32 ∧ (UInt8.ofNat x.val).toNat ||| 32 ≤ 122) → dig0 (UInt8.ofNat x.val) = none := by decide +kernel
  have := h ⟨c.toNat, c.toNat_lt⟩
  simp only [UInt8.ofNat_toNat] at this
  exact this h0 h1
theorem or32_le {n : Nat} (h : n < 256) : n ||| 32 < 256 := Nat.or_lt_two_pow (n := 8) h (by decide)
theorem numB_snoc (B : Nat) : ∀ (s : Txt) (n : Nat) (c : UInt8), numB B (s ++ [c]) n = numB B s n * B + (digB B c).getD 0
  | [], n, c => rfl
  | x :: s, n, c => by
    rw [List.cons_append]
    unfold numB
    exact numB_snoc B s _ c
theorem numB_lt {B : Nat} (hB : B ≤ 16) : ∀ {s : Txt} {n : Nat}, (∀ x ∈ s, (digB B x).isSome = true) → numB B s n < (n + 1) * 16 ^ s.length
  | [], n, _ => by show n < (n + 1) * 1; omega
  | c :: s, n, h => by
    have hd : (digB B c).getD 0 < 16 := by
      have := h c (by simp)
      rw [digB_eq] at this ⊢
      cases hx : dig0 c with
      | none => simp
      | some d =>
        simp only
        split
        · show d < 16; omega
        · decide
    have ih := numB_lt hB (s := s) (n := n * B + (digB B c).getD 0) fun x hx => h x (by simp [hx])
    show numB B s (n * B + (digB B c).getD 0) < _
    refine Nat.lt_of_lt_of_le ih ?_
    have hnB : n * B ≤ n * 16 := Nat.mul_le_mul_left _ hB
    rw [List.length_cons, Nat.pow_succ, Nat.mul_comm (16 ^ s.length) 16, ← Nat.mul_assoc]
    exact Nat.mul_le_mul_right _ (by omega)
theorem parR_bad {B : Nat} {s : Txt} {c : UInt8} {i : Nat} (h : s[i]? = some c) (hc : digB B c = none) : parR B s = (0, false) := by
  unfold parR
  rw [if_neg]
  rintro ⟨_, h1⟩
  have := List.all_eq_true.1 h1 c (List.mem_of_getElem? h)
  rw [hc] at this
  cases this
end Go.Ez.XRd
namespace Go.Proofs.YtlflpbflpcmckaaGreatDoor
open Go Go.Ez Go.RowKit Go.Lib
set_option linter.unusedSimpArgs false
set_option linter.unusedVariables false
theorem wrapU64 {x : Int} (h0 : 0 ≤ x) (h1 : x < 18446744073709551616) : IntKind.u64.wrap x = x := by
  simp only [IntKind.wrap, IntKind.bits, IntKind.signed]
  simp
  omega
theorem wrapU8 {x : Int} (h0 : 0 ≤ x) (h1 : x < 256) : IntKind.u8.wrap x = x := by
  simp only [IntKind.wrap, IntKind.bits, IntKind.signed]
  simp
  omega
theorem le_u64' {n : Nat} (h : n ≤ 9223372036854775807) : (n : Int) ≤ IntKind.u64.max := by simp only [IntKind.max, IntKind.bits, IntKind.signed]; simp; omega
section
variable {w0 W W' : World} {G : Nat → Prop} {l R : List As} {RR : Value → World → Prop} {t s p : Txt} {c : UInt8} {x : UInt8} {B bits n : Nat}
theorem lower_spec (k : RR (nV .u8 (c.toNat ||| 32)) W) : CallF Tryz.prog 186 #[byteV c] W RR := by
  refine sh186_calls ?_
  unfold sh186
  have hc := c.toNat_lt
  exact a_orN (n := c.toNat) (m := 32) (le_u8 hc) (le_u8 (by decide)) k
theorem take_snoc {m : Txt} {i : Nat} {x : UInt8} (h : m[i]? = some x) : m.take (i + 1) = m.take i ++ [x] := by rw [List.take_add_one, h]; rfl
theorem bytesV_at {m : Txt} {i : Nat} {x : UInt8} (h : m[i]? = some x) : (bytesV m)[i]? = some (byteV x) := by unfold bytesV; rw [List.getElem?_map, h]; rfl
/-- how an answer is told -/
def parV (x : Nat × Bool) : Value := .tuple #[nV .u64 x.1, if x.2 then .nilIface else .iface 211 (.int .i64 2)]
theorem iparse_spec (hB : B = 10 ∨ B = 16) (hb : (bits = 8 ∧ s.length ≤ 1) ∨ (bits = 64 ∧ s.length ≤ 7)) (h : St w0 G l W) (k : ∀ W', St w0 G l W' → RR (parV (XRd.parR B s)) W') : CallF Tryz.prog 180 #[strV s, nV .i64 B, nV .i64 bits] W RR := by
  refine sh180_calls ?_
  unfold sh180
  have err : XRd.parR B s = (0, false) → ∀ W, St w0 G l W → RunV Tryz.prog (Instr.makeInterface 211 (.int .i64 2)) W fun t w => RR (.tuple #[(.int .u64 0), t]) w := fun e W h => by
    rw [e] at k
    exact RunV.of (run_makeInterface W 211 _ (by kernel_rfl)) (k W h)
  refine w_eqlL (ifd (fun hs => ?_) fun hs => ?_)
  · exact err (by unfold XRd.parR; rw [if_neg (fun h => h.1 hs)]) W h
  refine w_eql ?_
  refine jni (fun vs W' => vs = [strV s, nV .i64 B, nV .i64 bits, .bool (decide ((B : Int) = 0)), strV s] ∧ W' = W) ?_ ?_
  rotate_left
  · refine a_leq (ifd_pos (by omega) ?_)
    refine a_leq (ifd_pos (by omega) ⟨rfl, rfl⟩)
  rintro vs W1 _ ⟨rfl, rfl⟩
  refine app5 ?_
  rw [decide_eq_false (show ¬ ((B : Int) = 0) by omega)]
  refine jni (fun vs W' => vs = [strV s, nV .i64 B, nV .i64 bits, .bool false, strV s] ∧ W' = W1) ?_ ?_
  rotate_left
  · refine w_eql (ifd_neg (by omega) ?_)
    refine a_lss (ifd_neg (by omega) ?_)
    refine a_gtr (ifd_neg (by omega) ⟨rfl, rfl⟩)
  rintro vs W1 _ ⟨rfl, rfl⟩
  refine app5 ?_
  refine jni (fun vs W' => ∃ cut : Int, vs = [strV s, nV .i64 B, nV .i64 bits, .bool false, strV s, .int .u64 cut] ∧ 1000000000000 ≤ cut ∧ W' = W1) ?_ ?_
  rotate_left
  · refine w_eql (ifd (fun h10 => ⟨_, rfl, by decide, rfl⟩) fun h10 => ?_)
    refine jni (fun vs W' => ∃ cut : Int, vs = [strV s, nV .i64 B, nV .i64 bits, .bool false, strV s, .int .u64 cut] ∧ 1000000000000 ≤ cut ∧ W' = W1) (by rintro vs W' _ ⟨cut, rfl, h1, h2⟩; exact app6 ⟨cut, rfl, h1, h2⟩) ?_
    refine w_eql (ifd (fun h16 => ⟨_, rfl, by decide, rfl⟩) fun h16 => ?_)
    omega
  rintro vs W1 _ ⟨cut, rfl, hcut, rfl⟩
  refine app6 ?_
  obtain ⟨mx, hmx, hmx1⟩ : ∃ mx : Int, (∀ K : Value → Prop, K (.int .u64 mx) → RunA Tryz.prog (bin .shl 205 (.const (.int .u64 1)) (.tmp 95) (.int .u64 1) (nV .u64 bits)) fun t96 => RunA Tryz.prog (bin .sub 205 (.tmp 96) (.const (.int .u64 1)) t96 (.int .u64 1)) K) ∧ ((bits = 8 ∧ mx = 255) ∨ (bits = 64 ∧ mx = 18446744073709551615)) := by
    rcases hb with ⟨rfl, _⟩ | ⟨rfl, _⟩
    · exact ⟨255, fun K hK => ⟨.int .u64 256, fun w => rfl, .int .u64 255, fun w => rfl, hK⟩, .inl ⟨rfl, rfl⟩⟩
    · exact ⟨18446744073709551615, fun K hK => ⟨.int .u64 0, fun w => rfl, .int .u64 18446744073709551615, fun w => rfl, hK⟩, .inr ⟨rfl, rfl⟩⟩
  refine x_nat (k := .u64) (le_u64' (by omega)) ?_
  refine hmx _ ?_
  refine h.ofStr fun v W o h => ?_
  refine x_lenS (h.rsl (v := v)) ?_
  have hlen : s.length ≤ 7 := by omega
  refine lpx (α := Nat × Nat) (fun A => [.bool false, nV .u64 A.2, nV .i64 A.1]) (fun A W' => A.1 ≤ s.length ∧ XRd.numB B (s.take A.1) 0 = A.2 ∧ A.2 + 1 ≤ 16 ^ A.1 ∧ (∀ x ∈ s.take A.1, (XRd.digB B x).isSome = true) ∧ St w0 G (Ky v (Rd 1 s.length (bytesV s)) :: l) W') (fun A => s.length - A.1) (0, 0) (fun _ => rfl) rfl ⟨Nat.zero_le _, rfl, by decide, by simp, h⟩ ?_
  clear h
  rintro next ⟨i, n⟩ W1 hnext ⟨h1, h2, h3, h4, h⟩
  simp only at h1 h2 h3 h4 h
  refine app3 ?_
  refine a_lss (ifd (fun hc => ?_) fun hc => ?_)
  · have hi : i < s.length := by omega
    have ga : s[i]? = some s[i] := List.getElem?_eq_getElem hi
    generalize s[i] = a at ga
    have hp : 16 ^ i ≤ 16 ^ 6 := Nat.pow_le_pow_right (by decide) (by omega)
    have hn : n + 1 ≤ 16777216 := Nat.le_trans h3 hp
    have hal := a.toNat_lt
    refine jni (fun vs W' => ∃ n', vs = [nV .i64 B, .bool false, strV s, .int .u64 cut, .int .u64 mx, .bool false, nV .u64 n', v, nV .i64 s.length, nV .i64 i] ∧ (∃ d, XRd.digB B a = some d ∧ n' = n * B + d ∧ d < B) ∧ St w0 G (Ky v (Rd 1 s.length (bytesV s)) :: l) W') ?_ ?_
    · rintro vs W _ ⟨n', rfl, ⟨d, hd, hn', hdB⟩, h⟩
      refine app10 ?_
      refine a_add64 (by omega) (by omega) ⟨rfl, rfl, rfl, rfl, rfl, rfl, rfl, ?_⟩
      rw [show ((i : Int) + 1) = ((i + 1 : Nat) : Int) by push_cast; rfl]
      have ht : s.take (i + 1) = s.take i ++ [a] := take_snoc ga
      refine hnext (i + 1, n') W (by simp only; omega) ⟨by simp only; omega, ?_, ?_, fun x hx => ?_, h⟩
      · simp only
        rw [ht, XRd.numB_snoc, h2, hd, hn']; rfl
      · simp only
        have : n * B ≤ n * 16 := Nat.mul_le_mul_left _ (by omega)
        have e : 16 ^ (i + 1) = 16 ^ i * 16 := Nat.pow_succ ..
        rw [e]
        omega
      · simp only at hx
        rw [ht] at hx
        rcases List.mem_append.1 hx with hx | hx
        · exact h4 x hx
        · rw [List.mem_singleton.1 hx, hd]; rfl
    refine x_at (h.rsl (v := v)) (bytesV_at ga) ?_
    refine jni (fun vs W' => ∃ d, vs = [nV .i64 B, .bool false, strV s, .int .u64 cut, .int .u64 mx, .bool false, nV .u64 n, nV .u8 d, v, nV .i64 s.length, nV .i64 i] ∧ XRd.dig0 a = some d ∧ d < 256 ∧ W' = W1) ?_ ?_
    · rintro vs W _ ⟨d, rfl, hd, hd256, rfl⟩
      refine app11 ?_
      refine x_nat (k := .u8) (le_u8 (by omega)) ?_
      refine a_geq (ifd (fun hdB => ?_) fun hdB => ?_)
      · exact err (XRd.parR_bad ga (by rw [XRd.digB_eq, hd]; simp only; rw [if_neg (by omega)])) _ h.to
      refine a_geq (ifd_neg (by omega) ?_)
      refine x_nat (k := .u64) (le_u64' (by omega)) ?_
      have hnB : n * B ≤ n * 16 := Nat.mul_le_mul_left _ (by omega)
      have eNB : ((n : Int) * (B : Int)) = ((n * B : Nat) : Int) := by push_cast; rfl
      refine a_mul ?_
      rw [eNB, wrapU64 (by omega) (by omega)]
      refine x_nat (k := .u64) (le_u64' (by omega)) ?_
      refine a_add ?_
      rw [wrapU64 (by omega) (by omega), show ((n * B : Nat) : Int) + (d : Int) = ((n * B + d : Nat) : Int) by push_cast; rfl]
      refine a_lss (ifd_neg (by omega) ?_)
      refine a_gtr (ifd_neg ?_ ?_)
      · rcases hmx1 with ⟨rfl, rfl⟩ | ⟨rfl, rfl⟩
        · have hi0 : i = 0 := by omega
          subst hi0
          have : n = 0 := by simp only [Nat.pow_zero] at h3; omega
          subst this
          omega
        · omega
      · exact ⟨_, rfl, ⟨d, by rw [XRd.digB_eq, hd]; simp only; rw [if_pos (by omega)], rfl, by omega⟩, h⟩
    have nod : ∀ (W' : World), ¬ (48 ≤ a.toNat ∧ a.toNat ≤ 57) → W' = W1 → ∀ j : FnN 11, (∀ d, XRd.dig0 a = some d → d < 256 → appN 11 j [nV .i64 B, .bool false, strV s, .int .u64 cut, .int .u64 mx, .bool false, nV .u64 n, nV .u8 d, v, nV .i64 s.length, nV .i64 i] W1) →
        CallF Tryz.prog 186 #[byteV a] W1 fun t123 w =>
        RunA Tryz.prog (bin .leq 5 (.const (.int .u8 97)) (.tmp 123) (.int .u8 97) t123) fun t124 =>
        IfB t124 (
        CallF Tryz.prog 186 #[byteV a] w fun t127 w =>
        RunA Tryz.prog (bin .leq 5 (.tmp 127) (.const (.int .u8 122)) t127 (.int .u8 122)) fun t128 =>
        IfB t128 (
        CallF Tryz.prog 186 #[byteV a] w fun t131 w =>
        RunA Tryz.prog (bin .sub 5 (.tmp 131) (.const (.int .u8 97)) t131 (.int .u8 97)) fun t132 =>
        RunA Tryz.prog (bin .add 5 (.tmp 132) (.const (.int .u8 10)) t132 (.int .u8 10)) fun t133 =>
        j (nV .i64 B) (.bool false) (strV s) (.int .u64 cut) (.int .u64 mx) (.bool false) (nV .u64 n) t133 v (nV .i64 s.length) (nV .i64 i) w) (
        RunV Tryz.prog (Instr.makeInterface 211 (.int .i64 2)) w fun t105 w => RR (.tuple #[(.int .u64 0), t105]) w)) (
        RunV Tryz.prog (Instr.makeInterface 211 (.int .i64 2)) w fun t105 w => RR (.tuple #[(.int .u64 0), t105]) w) := fun W' h0 hW j hj => by
      have hor := XRd.or32_le hal
      have bad : ¬ (97 ≤ a.toNat ||| 32 ∧ a.toNat ||| 32 ≤ 122) → RunV Tryz.prog (Instr.makeInterface 211 (.int .i64 2)) W1 fun t105 w => RR (.tuple #[(.int .u64 0), t105]) w := fun hx =>
        err (XRd.parR_bad ga (by rw [XRd.digB_eq, XRd.low_none h0 hx])) _ h.to
      refine lower_spec (a_leq (ifd (fun h97 => lower_spec (a_leq (ifd (fun h122 => lower_spec ?_) fun h122 => ?_))) fun h97 => ?_))
      · have hd := XRd.low_some h0 (by omega) (by omega)
        refine a_sub ?_
        rw [wrapU8 (by omega) (by omega)]
        refine a_add ?_
        rw [wrapU8 (by omega) (by omega), show (((a.toNat ||| 32 : Nat) : Int) - 97 + 10) = (((a.toNat ||| 32) - 87 : Nat) : Int) by omega]
        exact hj _ hd (by omega)
      · exact bad (by omega)
      · exact bad (by omega)
    refine w_eql (ifd (fun h95 => iff' ?_) fun h95 => ?_)
    all_goals
      refine jni (fun vs W' => ∃ d, vs = [nV .i64 B, .bool false, strV s, .int .u64 cut, .int .u64 mx, .bool false, nV .u64 n, nV .u8 d, v, nV .i64 s.length, nV .i64 i] ∧ XRd.dig0 a = some d ∧ d < 256 ∧ W' = W1) (by rintro vs W' _ ⟨d, rfl, h1, h2, h3⟩; exact app11 ⟨d, rfl, h1, h2, h3⟩) ?_
      refine a_leq (ifd (fun h48 => a_leq (ifd (fun h57 => ?_) fun h57 => ?_)) fun h48 => ?_)
      · refine a_sub ?_
        rw [wrapU8 (by omega) (by omega), show ((a.toNat : Int) - 48) = ((a.toNat - 48 : Nat) : Int) by omega]
        exact ⟨_, rfl, by unfold XRd.dig0; rw [if_pos (by omega)], by omega, rfl⟩
      · exact nod _ (by omega) rfl _ fun d h1 h2 => ⟨d, rfl, h1, h2, rfl⟩
      · exact nod _ (by omega) rfl _ fun d h1 h2 => ⟨d, rfl, h1, h2, rfl⟩
  · have hi : i = s.length := by omega
    rw [hi, List.take_length] at h2 h4
    refine jni (fun vs W' => vs = [nV .u64 n] ∧ W' = W1) ?_ ?_
    · rintro vs W _ ⟨rfl, rfl⟩
      refine app1 ?_
      have : XRd.parR B s = (n, true) := by
        unfold XRd.parR
        rw [if_pos ⟨hs, List.all_eq_true.2 h4⟩, h2]
      rw [this] at k
      exact k _ h.to
    · exact iff' ⟨rfl, rfl⟩
end
end Go.Proofs.YtlflpbflpcmckaaGreatDoor
namespace Go.Proofs.YtlflpbflpcmckaaGreatDoor
open Go Go.Ez Go.RowKit Go.Lib
set_option linter.unusedSimpArgs false
set_option linter.unusedVariables false
section
variable {w0 W W' : World} {G : Nat → Prop} {l R : List As} {RR : Value → World → Prop} {t s p : Txt} {c : XC} {x : UInt8} {B bits b n most : Nat} {r : XRd}
theorem parse_spec (hT : XTabs w0) (hB : B = 10 ∨ B = 16) (hb : (bits = 8 ∧ s.length ≤ 1) ∨ (bits = 64 ∧ s.length ≤ 7)) (h : St w0 G0 l W)
    (k1 : (XRd.parR B s).2 = true → ∀ W', St w0 G0 l W' → RR (.tuple #[nV .u64 (XRd.parR B s).1, .nilIface]) W') (k2 : (XRd.parR B s).2 = false → ∀ v u W', St w0 G0 l W' → RR (.tuple #[nV .u64 (XRd.parR B s).1, .iface u v]) W') : CallF Tryz.prog 172 #[strV s, nV .i64 B, nV .i64 bits] W RR := by
  refine sh172_calls ?_
  unfold sh172
  refine iparse_spec hB hb h fun W h => a_ext0 (a_ext1 ?_)
  cases hp : (XRd.parR B s).2
  · refine x_neNil1 (ift ?_)
    obtain ⟨ev, h3, h3'⟩ := (xtabs_at hT h).s
    have hsz : (⟨s.toArray⟩ : ByteArray).size = s.length := by show s.toArray.size = _; simp
    refine callF_of (Any.strconv_toError_syntax Tryz.laysC245 ⟨#[80, 97, 114, 115, 101, 85, 105, 110, 116]⟩ ⟨s.toArray⟩ (B : Int) (bits : Int) ev W (by rw [hsz]; omega) h3 h3') fun e W' hq => ?_
    obtain ⟨N, he, _, _, hb⟩ := hq
    exact ⟨_, he, k2 hp _ _ _ (h.ext hb)⟩
  · exact x_neNil0 (iff' (k1 hp W h))
theorem digits_spec (hT : XTabs w0) [i : Has l b (Xo r c) R] (h : St w0 G0 l W) (hle : r.at_ ≤ r.s.length) (hs : r.s.length ≤ 1000000) (hB : B = 10 ∨ B = 16) (hm : most ≤ 7) (k : ∀ W', St w0 G0 (Ky b (Xo (XRd.digits B most r).2 c) :: R) W' → RR (.int .i64 (XRd.digits B most r).1) W') : CallF Tryz.prog 157 #[.pointer (some ⟨b, 0, none⟩), nV .i64 B, nV .i64 most] W RR := by
  refine sh157_calls ?_
  unfold sh157
  replace h := h.find (k := b) (X := Xo r c)
  unfold XRd.digits at k
  dsimp only at k
  generalize hQ : XRd.digitsGo B most r.at_ (most + 2) r = Q at k
  (repeat (first | (with_reducible refine ift ?_) | (with_reducible refine iff' ?_) | (with_reducible refine a_lss ?_) | (with_reducible refine a_leq ?_) | (with_reducible refine a_gtr ?_) | (with_reducible refine a_geq ?_) | (with_reducible refine w_eql ?_) | (with_reducible refine w_neq ?_) | (with_reducible refine s_eql ?_) | (with_reducible refine s_neq ?_) | ((with_reducible refine a_add64 ?h0 ?h1 ?_); (case h0 => omega); (case h1 => omega);  skip) | ((with_reducible refine a_sub64 ?h0 ?h1 ?_); (case h0 => omega); (case h1 => omega);  skip) | ((with_reducible refine a_mul64 ?h0 ?h1 ?_); (case h0 => omega); (case h1 => omega);  skip) | (with_reducible refine a_notd ?_) | (with_reducible refine a_not ?_) | (with_reducible refine a_ext0 ?_) | (with_reducible refine a_ext1 ?_) | (with_reducible refine a_ext2 ?_) | (with_reducible refine x_len ?_) | (with_reducible refine x_lens ?_) | (with_reducible refine x_eqb ?_) | (with_reducible refine x_neb ?_) | (with_reducible refine x_nilP ?_) | (with_reducible refine x_nilPn ?_) | (with_reducible refine x_nilF ?_) | (with_reducible refine x_nilFF ?_) | (with_reducible refine w_eqlL ?_) | (with_reducible refine w_neqL ?_) | (with_reducible refine s_eqlL ?_) | (with_reducible refine ifnt ?_) | (with_reducible refine ifnf ?_) | (with_reducible refine x_eqB ?_) | (with_reducible refine x_neB ?_) | (with_reducible refine x_lssL ?_) | (with_reducible refine x_gtrL ?_) | (with_reducible refine x_geqL ?_) | (with_reducible refine s_neqL ?_) | (with_reducible refine St.load h ?_) | (with_reducible refine St.loadS h ?_) | (with_reducible refine a_fld0 ?_) | (with_reducible refine St.store h fun W h => ?_) | (with_reducible refine St.storeS h fun W h => ?_) | (with_reducible refine St.alloc h fun b W h => ?_) | (with_reducible refine St.allocS h fun b W h => ?_) | (with_reducible refine a_nil ?_) | (with_reducible refine ss_load ?_) | (with_reducible refine ss_loadS ?_) | (with_reducible refine ss_eqb ?_)))
  refine jni (fun vs W' => vs = [.pointer (some ⟨b, 0, none⟩), nV .i64 B, nV .i64 r.at_] ∧ Q.s = r.s ∧ r.at_ ≤ Q.at_ ∧ Q.at_ ≤ r.s.length ∧ Q.at_ ≤ r.at_ + most ∧ (∀ x ∈ (r.s.drop r.at_).take (Q.at_ - r.at_), (XRd.digB B x).isSome = true) ∧ St w0 G0 (Ky b (Xo Q c) :: R) W') ?_ ?_
  · rintro vs W _ ⟨rfl, q1, q2, q3, q4, q5, h⟩
    refine app3 ?_
    generalize hl : (r.s.drop r.at_).take (Q.at_ - r.at_) = ds at *
    have hdl : ds.length ≤ 7 := by rw [← hl, List.length_take, List.length_drop]; omega
    refine ⟨St w0 G0 _, h.drew, ?_⟩
    replace h := h.drew
    (repeat (first | (with_reducible refine ift ?_) | (with_reducible refine iff' ?_) | (with_reducible refine a_lss ?_) | (with_reducible refine a_leq ?_) | (with_reducible refine a_gtr ?_) | (with_reducible refine a_geq ?_) | (with_reducible refine w_eql ?_) | (with_reducible refine w_neq ?_) | (with_reducible refine s_eql ?_) | (with_reducible refine s_neq ?_) | ((with_reducible refine a_add64 ?h0 ?h1 ?_); (case h0 => omega); (case h1 => omega);  skip) | ((with_reducible refine a_sub64 ?h0 ?h1 ?_); (case h0 => omega); (case h1 => omega);  skip) | ((with_reducible refine a_mul64 ?h0 ?h1 ?_); (case h0 => omega); (case h1 => omega);  skip) | (with_reducible refine a_notd ?_) | (with_reducible refine a_not ?_) | (with_reducible refine a_ext0 ?_) | (with_reducible refine a_ext1 ?_) | (with_reducible refine a_ext2 ?_) | (with_reducible refine x_len ?_) | (with_reducible refine x_lens ?_) | (with_reducible refine x_eqb ?_) | (with_reducible refine x_neb ?_) | (with_reducible refine x_nilP ?_) | (with_reducible refine x_nilPn ?_) | (with_reducible refine x_nilF ?_) | (with_reducible refine x_nilFF ?_) | (with_reducible refine w_eqlL ?_) | (with_reducible refine w_neqL ?_) | (with_reducible refine s_eqlL ?_) | (with_reducible refine ifnt ?_) | (with_reducible refine ifnf ?_) | (with_reducible refine x_eqB ?_) | (with_reducible refine x_neB ?_) | (with_reducible refine x_lssL ?_) | (with_reducible refine x_gtrL ?_) | (with_reducible refine x_geqL ?_) | (with_reducible refine s_neqL ?_) | (with_reducible refine St.load h ?_) | (with_reducible refine St.loadS h ?_) | (with_reducible refine a_fld0 ?_) | (with_reducible refine St.store h fun W h => ?_) | (with_reducible refine St.storeS h fun W h => ?_) | (with_reducible refine St.alloc h fun b W h => ?_) | (with_reducible refine St.allocS h fun b W h => ?_) | (with_reducible refine a_nil ?_) | (with_reducible refine ss_load ?_) | (with_reducible refine ss_loadS ?_) | (with_reducible refine ss_eqb ?_)))
    refine x_cut (by omega) (by rw [q1]; omega) ?_
    rw [q1, hl]
    have hpar : XRd.parR B ds = if ds = [] then (0, false) else (XRd.numB B ds 0, true) := by
      unfold XRd.parR
      by_cases hd : ds = []
      · rw [if_neg (fun h => h.1 hd), if_pos hd]
      · rw [if_pos ⟨hd, List.all_eq_true.2 q5⟩, if_neg hd]
    have hnum : XRd.numB B ds 0 ≤ 1000000000 := by
      have h1 := XRd.numB_lt (B := B) (by omega) (n := 0) q5
      have h2 : 16 ^ ds.length ≤ 16 ^ 7 := Nat.pow_le_pow_right (by decide) hdl
      omega
    have fin : ∀ n' (q : XRd) W', n' ≤ 1000000000 → q.at_ = Q.at_ → St w0 G0 (Ky b (Xo q c) :: R) W' → (∀ W', St w0 G0 (Ky b (Xo (q.on 1) c) :: R) W' → RR (.int .i64 (n' : Nat)) W') → appN 2 (fun t0 t10 w =>
        RunA Tryz.prog (nilV t0) fun t91 =>
        RunA Tryz.prog (Instr.fieldAt 83 t91 1) fun t92 =>
        RunW Tryz.prog (Instr.loadAt 3 t92) w fun t93 =>
        RunA Tryz.prog (bin .add 3 (.tmp 93) (.const (.int .i64 1)) t93 (.int .i64 1)) fun t94 =>
        RunA Tryz.prog (nilV t0) fun t95 =>
        RunA Tryz.prog (Instr.fieldAt 83 t95 1) fun t96 =>
        RunU Tryz.prog (Instr.storeAt 3 t96 t94) w fun w =>
        RunV Tryz.prog (convert 205 3 t10) w fun t98 w =>
        RR t98 w : FnN 2) [.pointer (some ⟨b, 0, none⟩), nV .u64 n'] W' := fun n' q W' hn' hqa h kk => by
      refine app2 ?_
      (repeat (first | (with_reducible refine ift ?_) | (with_reducible refine iff' ?_) | (with_reducible refine a_lss ?_) | (with_reducible refine a_leq ?_) | (with_reducible refine a_gtr ?_) | (with_reducible refine a_geq ?_) | (with_reducible refine w_eql ?_) | (with_reducible refine w_neq ?_) | (with_reducible refine s_eql ?_) | (with_reducible refine s_neq ?_) | ((with_reducible refine a_add64 ?h0 ?h1 ?_); (case h0 => omega); (case h1 => omega);  skip) | ((with_reducible refine a_sub64 ?h0 ?h1 ?_); (case h0 => omega); (case h1 => omega);  skip) | ((with_reducible refine a_mul64 ?h0 ?h1 ?_); (case h0 => omega); (case h1 => omega);  skip) | (with_reducible refine a_notd ?_) | (with_reducible refine a_not ?_) | (with_reducible refine a_ext0 ?_) | (with_reducible refine a_ext1 ?_) | (with_reducible refine a_ext2 ?_) | (with_reducible refine x_len ?_) | (with_reducible refine x_lens ?_) | (with_reducible refine x_eqb ?_) | (with_reducible refine x_neb ?_) | (with_reducible refine x_nilP ?_) | (with_reducible refine x_nilPn ?_) | (with_reducible refine x_nilF ?_) | (with_reducible refine x_nilFF ?_) | (with_reducible refine w_eqlL ?_) | (with_reducible refine w_neqL ?_) | (with_reducible refine s_eqlL ?_) | (with_reducible refine ifnt ?_) | (with_reducible refine ifnf ?_) | (with_reducible refine x_eqB ?_) | (with_reducible refine x_neB ?_) | (with_reducible refine x_lssL ?_) | (with_reducible refine x_gtrL ?_) | (with_reducible refine x_geqL ?_) | (with_reducible refine s_neqL ?_) | (with_reducible refine St.load h ?_) | (with_reducible refine St.loadS h ?_) | (with_reducible refine a_fld0 ?_) | (with_reducible refine St.store h fun W h => ?_) | (with_reducible refine St.storeS h fun W h => ?_) | (with_reducible refine St.alloc h fun b W h => ?_) | (with_reducible refine St.allocS h fun b W h => ?_) | (with_reducible refine a_nil ?_) | (with_reducible refine ss_load ?_) | (with_reducible refine ss_loadS ?_) | (with_reducible refine ss_eqb ?_)))
      refine x_nat (k := .i64) (le_i64 (by omega)) ?_
      exact kk _ h
    refine parse_spec hT hB (.inr ⟨rfl, hdl⟩) h (fun hp W h => a_ext0 (a_ext1 ?_)) (fun hp v u W h => a_ext0 (a_ext1 ?_))
    · rw [hpar] at hp ⊢
      by_cases hd : ds = []
      · rw [if_pos hd] at hp; cases hp
      rw [if_neg hd]
      rw [decide_eq_false hd] at k
      refine jni (fun vs W' => vs = [.pointer (some ⟨b, 0, none⟩), nV .u64 (XRd.numB B ds 0)] ∧ St w0 G0 (Ky b (Xo Q c) :: R) W') (by rintro vs W' _ ⟨rfl, h⟩; exact fin _ Q W' hnum rfl h fun W' h => k W' h) ?_
      exact x_neNil0 (iff' ⟨rfl, h⟩)
    · rw [hpar] at hp ⊢
      by_cases hd : ds = []
      · rw [if_pos hd]
        rw [decide_eq_true hd] at k
        refine jni (fun vs W' => vs = [.pointer (some ⟨b, 0, none⟩), nV .u64 0] ∧ St w0 G0 (Ky b (Xo (Q.fail 4) c) :: R) W') (by rintro vs W' _ ⟨rfl, h⟩; exact fin _ _ W' (by decide) XRd.fail_at h fun W' h => by have := k W' h; rw [hd] at this; exact this) ?_
        refine x_neNil1 (ift ?_)
        exact fail_spec (r := Q) (c := c) h fun W h => ⟨rfl, h⟩
      · rw [if_neg hd] at hp; cases hp
  · refine lpx (α := Nat × XRd) (fun _ => []) (fun A W' => A.2.s = r.s ∧ r.at_ ≤ A.2.at_ ∧ A.2.at_ ≤ r.s.length ∧ A.2.at_ ≤ r.at_ + most ∧ (∀ x ∈ (r.s.drop r.at_).take (A.2.at_ - r.at_), (XRd.digB B x).isSome = true) ∧ (A.2.e = 0 → r.at_ + most < A.1 + A.2.at_) ∧ XRd.digitsGo B most r.at_ A.1 A.2 = Q ∧ St w0 G0 (Ky b (Xo A.2 c) :: R) W') (fun A => A.1) (most + 2, r) (fun _ => rfl) rfl
      ⟨rfl, Nat.le_refl _, hle, Nat.le_add_right _ _, by simp, fun _ => by simp only; omega, hQ, h⟩ ?_
    clear h
    rintro next ⟨f, q⟩ W1 hnext ⟨h1, h2, h3, h4, h5, h6, h7, h⟩
    simp only at h1 h2 h3 h4 h5 h6 h7 h
    refine app0 ?_
    have hsl : q.s.length = r.s.length := by rw [h1]
    (repeat (first | (with_reducible refine ift ?_) | (with_reducible refine iff' ?_) | (with_reducible refine a_lss ?_) | (with_reducible refine a_leq ?_) | (with_reducible refine a_gtr ?_) | (with_reducible refine a_geq ?_) | (with_reducible refine w_eql ?_) | (with_reducible refine w_neq ?_) | (with_reducible refine s_eql ?_) | (with_reducible refine s_neq ?_) | ((with_reducible refine a_add64 ?h0 ?h1 ?_); (case h0 => omega); (case h1 => omega);  skip) | ((with_reducible refine a_sub64 ?h0 ?h1 ?_); (case h0 => omega); (case h1 => omega);  skip) | ((with_reducible refine a_mul64 ?h0 ?h1 ?_); (case h0 => omega); (case h1 => omega);  skip) | (with_reducible refine a_notd ?_) | (with_reducible refine a_not ?_) | (with_reducible refine a_ext0 ?_) | (with_reducible refine a_ext1 ?_) | (with_reducible refine a_ext2 ?_) | (with_reducible refine x_len ?_) | (with_reducible refine x_lens ?_) | (with_reducible refine x_eqb ?_) | (with_reducible refine x_neb ?_) | (with_reducible refine x_nilP ?_) | (with_reducible refine x_nilPn ?_) | (with_reducible refine x_nilF ?_) | (with_reducible refine x_nilFF ?_) | (with_reducible refine w_eqlL ?_) | (with_reducible refine w_neqL ?_) | (with_reducible refine s_eqlL ?_) | (with_reducible refine ifnt ?_) | (with_reducible refine ifnf ?_) | (with_reducible refine x_eqB ?_) | (with_reducible refine x_neB ?_) | (with_reducible refine x_lssL ?_) | (with_reducible refine x_gtrL ?_) | (with_reducible refine x_geqL ?_) | (with_reducible refine s_neqL ?_) | (with_reducible refine St.load h ?_) | (with_reducible refine St.loadS h ?_) | (with_reducible refine a_fld0 ?_) | (with_reducible refine St.store h fun W h => ?_) | (with_reducible refine St.storeS h fun W h => ?_) | (with_reducible refine St.alloc h fun b W h => ?_) | (with_reducible refine St.allocS h fun b W h => ?_) | (with_reducible refine a_nil ?_) | (with_reducible refine ss_load ?_) | (with_reducible refine ss_loadS ?_) | (with_reducible refine ss_eqb ?_)))
    refine ifd (fun he => ?_) fun he => ?_
    · have h6' := h6 he
      obtain ⟨f, rfl⟩ : ∃ g, f = g + 1 := ⟨f - 1, by omega⟩
      unfold XRd.digitsGo at h7
      rw [if_pos he] at h7
      refine see_spec (n := 0) (r := q) (c := c) h (.of_le (by omega)) (by omega) (by decide) fun W h => ?_
      cases hx : q.s[q.at_]? with
      | none =>
        rw [hx] at h7
        simp only at h7
        have e0 : q.see 0 = (0, q.fail 2) := XRd.see_none hx
        rw [e0] at h ⊢
        dsimp only at h
        refine w_neC 59 rfl (ifd_pos (show (0 : UInt8) ≠ 59 by decide) ?_)
        (repeat (first | (with_reducible refine ift ?_) | (with_reducible refine iff' ?_) | (with_reducible refine a_lss ?_) | (with_reducible refine a_leq ?_) | (with_reducible refine a_gtr ?_) | (with_reducible refine a_geq ?_) | (with_reducible refine w_eql ?_) | (with_reducible refine w_neq ?_) | (with_reducible refine s_eql ?_) | (with_reducible refine s_neq ?_) | ((with_reducible refine a_add64 ?h0 ?h1 ?_); (case h0 => omega); (case h1 => omega);  skip) | ((with_reducible refine a_sub64 ?h0 ?h1 ?_); (case h0 => omega); (case h1 => omega);  skip) | ((with_reducible refine a_mul64 ?h0 ?h1 ?_); (case h0 => omega); (case h1 => omega);  skip) | (with_reducible refine a_notd ?_) | (with_reducible refine a_not ?_) | (with_reducible refine a_ext0 ?_) | (with_reducible refine a_ext1 ?_) | (with_reducible refine a_ext2 ?_) | (with_reducible refine x_len ?_) | (with_reducible refine x_lens ?_) | (with_reducible refine x_eqb ?_) | (with_reducible refine x_neb ?_) | (with_reducible refine x_nilP ?_) | (with_reducible refine x_nilPn ?_) | (with_reducible refine x_nilF ?_) | (with_reducible refine x_nilFF ?_) | (with_reducible refine w_eqlL ?_) | (with_reducible refine w_neqL ?_) | (with_reducible refine s_eqlL ?_) | (with_reducible refine ifnt ?_) | (with_reducible refine ifnf ?_) | (with_reducible refine x_eqB ?_) | (with_reducible refine x_neB ?_) | (with_reducible refine x_lssL ?_) | (with_reducible refine x_gtrL ?_) | (with_reducible refine x_geqL ?_) | (with_reducible refine s_neqL ?_) | (with_reducible refine St.load h ?_) | (with_reducible refine St.loadS h ?_) | (with_reducible refine a_fld0 ?_) | (with_reducible refine St.store h fun W h => ?_) | (with_reducible refine St.storeS h fun W h => ?_) | (with_reducible refine St.alloc h fun b W h => ?_) | (with_reducible refine St.allocS h fun b W h => ?_) | (with_reducible refine a_nil ?_) | (with_reducible refine ss_load ?_) | (with_reducible refine ss_loadS ?_) | (with_reducible refine ss_eqb ?_)))
        refine ifd_pos (XRd.fail_ne (by decide)) ?_
        rw [h7] at h
        have e1 : Q.s = r.s := by rw [← h7, XRd.fail_s, h1]
        have e2 : Q.at_ = q.at_ := by rw [← h7, XRd.fail_at]
        exact ⟨rfl, e1, by omega, by omega, by omega, by rw [e2]; exact h5, h⟩
      | some a =>
        rw [hx] at h7
        simp only at h7
        have e0 : q.see 0 = (a, q) := XRd.see_some hx
        rw [e0] at h ⊢
        dsimp only at h
        have hlt := XRd.lt_of_at (n := 0) hx
        rw [Nat.add_zero] at hlt
        refine w_neC 59 rfl (ifd (fun h59 => ?_) fun h59 => ?_)
        · rw [if_neg (show ¬ a = 59 from h59)] at h7
          (repeat (first | (with_reducible refine ift ?_) | (with_reducible refine iff' ?_) | (with_reducible refine a_lss ?_) | (with_reducible refine a_leq ?_) | (with_reducible refine a_gtr ?_) | (with_reducible refine a_geq ?_) | (with_reducible refine w_eql ?_) | (with_reducible refine w_neq ?_) | (with_reducible refine s_eql ?_) | (with_reducible refine s_neq ?_) | ((with_reducible refine a_add64 ?h0 ?h1 ?_); (case h0 => omega); (case h1 => omega);  skip) | ((with_reducible refine a_sub64 ?h0 ?h1 ?_); (case h0 => omega); (case h1 => omega);  skip) | ((with_reducible refine a_mul64 ?h0 ?h1 ?_); (case h0 => omega); (case h1 => omega);  skip) | (with_reducible refine a_notd ?_) | (with_reducible refine a_not ?_) | (with_reducible refine a_ext0 ?_) | (with_reducible refine a_ext1 ?_) | (with_reducible refine a_ext2 ?_) | (with_reducible refine x_len ?_) | (with_reducible refine x_lens ?_) | (with_reducible refine x_eqb ?_) | (with_reducible refine x_neb ?_) | (with_reducible refine x_nilP ?_) | (with_reducible refine x_nilPn ?_) | (with_reducible refine x_nilF ?_) | (with_reducible refine x_nilFF ?_) | (with_reducible refine w_eqlL ?_) | (with_reducible refine w_neqL ?_) | (with_reducible refine s_eqlL ?_) | (with_reducible refine ifnt ?_) | (with_reducible refine ifnf ?_) | (with_reducible refine x_eqB ?_) | (with_reducible refine x_neB ?_) | (with_reducible refine x_lssL ?_) | (with_reducible refine x_gtrL ?_) | (with_reducible refine x_geqL ?_) | (with_reducible refine s_neqL ?_) | (with_reducible refine St.load h ?_) | (with_reducible refine St.loadS h ?_) | (with_reducible refine a_fld0 ?_) | (with_reducible refine St.store h fun W h => ?_) | (with_reducible refine St.storeS h fun W h => ?_) | (with_reducible refine St.alloc h fun b W h => ?_) | (with_reducible refine St.allocS h fun b W h => ?_) | (with_reducible refine a_nil ?_) | (with_reducible refine ss_load ?_) | (with_reducible refine ss_loadS ?_) | (with_reducible refine ss_eqb ?_)))
          refine ifd_neg (fun hz => hz he) ?_
          refine ⟨St w0 G0 _, h.drew, ?_⟩
          replace h := h.drew
          (repeat (first | (with_reducible refine ift ?_) | (with_reducible refine iff' ?_) | (with_reducible refine a_lss ?_) | (with_reducible refine a_leq ?_) | (with_reducible refine a_gtr ?_) | (with_reducible refine a_geq ?_) | (with_reducible refine w_eql ?_) | (with_reducible refine w_neq ?_) | (with_reducible refine s_eql ?_) | (with_reducible refine s_neq ?_) | ((with_reducible refine a_add64 ?h0 ?h1 ?_); (case h0 => omega); (case h1 => omega);  skip) | ((with_reducible refine a_sub64 ?h0 ?h1 ?_); (case h0 => omega); (case h1 => omega);  skip) | ((with_reducible refine a_mul64 ?h0 ?h1 ?_); (case h0 => omega); (case h1 => omega);  skip) | (with_reducible refine a_notd ?_) | (with_reducible refine a_not ?_) | (with_reducible refine a_ext0 ?_) | (with_reducible refine a_ext1 ?_) | (with_reducible refine a_ext2 ?_) | (with_reducible refine x_len ?_) | (with_reducible refine x_lens ?_) | (with_reducible refine x_eqb ?_) | (with_reducible refine x_neb ?_) | (with_reducible refine x_nilP ?_) | (with_reducible refine x_nilPn ?_) | (with_reducible refine x_nilF ?_) | (with_reducible refine x_nilFF ?_) | (with_reducible refine w_eqlL ?_) | (with_reducible refine w_neqL ?_) | (with_reducible refine s_eqlL ?_) | (with_reducible refine ifnt ?_) | (with_reducible refine ifnf ?_) | (with_reducible refine x_eqB ?_) | (with_reducible refine x_neB ?_) | (with_reducible refine x_lssL ?_) | (with_reducible refine x_gtrL ?_) | (with_reducible refine x_geqL ?_) | (with_reducible refine s_neqL ?_) | (with_reducible refine St.load h ?_) | (with_reducible refine St.loadS h ?_) | (with_reducible refine a_fld0 ?_) | (with_reducible refine St.store h fun W h => ?_) | (with_reducible refine St.storeS h fun W h => ?_) | (with_reducible refine St.alloc h fun b W h => ?_) | (with_reducible refine St.allocS h fun b W h => ?_) | (with_reducible refine a_nil ?_) | (with_reducible refine ss_load ?_) | (with_reducible refine ss_loadS ?_) | (with_reducible refine ss_eqb ?_)))
          rw [show ((q.at_ : Int) + 1) = ((q.at_ + 1 : Nat) : Int) by push_cast; rfl]
          refine x_cut (by omega) (by omega) ?_
          have e1 : (q.s.drop q.at_).take (q.at_ + 1 - q.at_) = [a] := by
            have := XRd.rest_some hx
            unfold XRd.rest at this
            rw [this, Nat.add_sub_cancel_left]
            rfl
          rw [e1]
          have hpar : XRd.parR B [a] = if (XRd.digB B a).isSome then (XRd.numB B [a] 0, true) else (0, false) := by
            unfold XRd.parR
            by_cases hd : (XRd.digB B a).isSome = true
            · rw [if_pos ⟨by simp, by simp [hd]⟩, if_pos hd]
            · rw [if_neg (by rintro ⟨_, h⟩; simp at h; exact hd h), if_neg hd]
          have bad : ((XRd.digB B a).isNone || decide (most ≤ q.at_ - r.at_)) = true → ∀ W, St w0 G0 (Ky b (Xo q c) :: R) W → CallF Tryz.prog 41 #[.pointer (some ⟨b, 0, none⟩), .int .i64 4] W fun _ W => [Value.pointer (some ⟨b, 0, none⟩), nV .i64 B, nV .i64 r.at_] = [.pointer (some ⟨b, 0, none⟩), nV .i64 B, nV .i64 r.at_] ∧ Q.s = r.s ∧ r.at_ ≤ Q.at_ ∧ Q.at_ ≤ r.s.length ∧ Q.at_ ≤ r.at_ + most ∧ (∀ x ∈ (r.s.drop r.at_).take (Q.at_ - r.at_), (XRd.digB B x).isSome = true) ∧ St w0 G0 (Ky b (Xo Q c) :: R) W := fun hb W h => by
            rw [if_pos hb] at h7
            have e1 : Q.s = r.s := by rw [← h7, XRd.fail_s, h1]
            have e2 : Q.at_ = q.at_ := by rw [← h7, XRd.fail_at]
            refine fail_spec (r := q) (c := c) h fun W h => ?_
            rw [h7] at h
            exact ⟨rfl, e1, by omega, by omega, by omega, by rw [e2]; exact h5, h⟩
          refine parse_spec hT hB (.inl ⟨rfl, by simp⟩) h (fun hp W h => a_ext0 (a_ext1 ?_)) (fun hp v u W h => a_ext0 (a_ext1 ?_))
          · rw [hpar] at hp
            have hd : (XRd.digB B a).isSome = true := Classical.byContradiction fun hn => by rw [if_neg hn] at hp; cases hp
            refine x_neNil0 (iff' ?_)
            (repeat (first | (with_reducible refine ift ?_) | (with_reducible refine iff' ?_) | (with_reducible refine a_lss ?_) | (with_reducible refine a_leq ?_) | (with_reducible refine a_gtr ?_) | (with_reducible refine a_geq ?_) | (with_reducible refine w_eql ?_) | (with_reducible refine w_neq ?_) | (with_reducible refine s_eql ?_) | (with_reducible refine s_neq ?_) | ((with_reducible refine a_add64 ?h0 ?h1 ?_); (case h0 => omega); (case h1 => omega);  skip) | ((with_reducible refine a_sub64 ?h0 ?h1 ?_); (case h0 => omega); (case h1 => omega);  skip) | ((with_reducible refine a_mul64 ?h0 ?h1 ?_); (case h0 => omega); (case h1 => omega);  skip) | (with_reducible refine a_notd ?_) | (with_reducible refine a_not ?_) | (with_reducible refine a_ext0 ?_) | (with_reducible refine a_ext1 ?_) | (with_reducible refine a_ext2 ?_) | (with_reducible refine x_len ?_) | (with_reducible refine x_lens ?_) | (with_reducible refine x_eqb ?_) | (with_reducible refine x_neb ?_) | (with_reducible refine x_nilP ?_) | (with_reducible refine x_nilPn ?_) | (with_reducible refine x_nilF ?_) | (with_reducible refine x_nilFF ?_) | (with_reducible refine w_eqlL ?_) | (with_reducible refine w_neqL ?_) | (with_reducible refine s_eqlL ?_) | (with_reducible refine ifnt ?_) | (with_reducible refine ifnf ?_) | (with_reducible refine x_eqB ?_) | (with_reducible refine x_neB ?_) | (with_reducible refine x_lssL ?_) | (with_reducible refine x_gtrL ?_) | (with_reducible refine x_geqL ?_) | (with_reducible refine s_neqL ?_) | (with_reducible refine St.load h ?_) | (with_reducible refine St.loadS h ?_) | (with_reducible refine a_fld0 ?_) | (with_reducible refine St.store h fun W h => ?_) | (with_reducible refine St.storeS h fun W h => ?_) | (with_reducible refine St.alloc h fun b W h => ?_) | (with_reducible refine St.allocS h fun b W h => ?_) | (with_reducible refine a_nil ?_) | (with_reducible refine ss_load ?_) | (with_reducible refine ss_loadS ?_) | (with_reducible refine ss_eqb ?_)))
            refine ifd (fun hmo => ?_) fun hmo => ?_
            · exact bad (by rw [decide_eq_true (by omega)]; simp) _ h
            · have hno : ((XRd.digB B a).isNone || decide (most ≤ q.at_ - r.at_)) = false := by
                rw [decide_eq_false (by omega)]
                cases hz : XRd.digB B a
                · rw [hz] at hd; cases hd
                · rfl
              rw [hno] at h7
              simp only [Bool.false_eq_true, if_false] at h7
              (repeat (first | (with_reducible refine ift ?_) | (with_reducible refine iff' ?_) | (with_reducible refine a_lss ?_) | (with_reducible refine a_leq ?_) | (with_reducible refine a_gtr ?_) | (with_reducible refine a_geq ?_) | (with_reducible refine w_eql ?_) | (with_reducible refine w_neq ?_) | (with_reducible refine s_eql ?_) | (with_reducible refine s_neq ?_) | ((with_reducible refine a_add64 ?h0 ?h1 ?_); (case h0 => omega); (case h1 => omega);  skip) | ((with_reducible refine a_sub64 ?h0 ?h1 ?_); (case h0 => omega); (case h1 => omega);  skip) | ((with_reducible refine a_mul64 ?h0 ?h1 ?_); (case h0 => omega); (case h1 => omega);  skip) | (with_reducible refine a_notd ?_) | (with_reducible refine a_not ?_) | (with_reducible refine a_ext0 ?_) | (with_reducible refine a_ext1 ?_) | (with_reducible refine a_ext2 ?_) | (with_reducible refine x_len ?_) | (with_reducible refine x_lens ?_) | (with_reducible refine x_eqb ?_) | (with_reducible refine x_neb ?_) | (with_reducible refine x_nilP ?_) | (with_reducible refine x_nilPn ?_) | (with_reducible refine x_nilF ?_) | (with_reducible refine x_nilFF ?_) | (with_reducible refine w_eqlL ?_) | (with_reducible refine w_neqL ?_) | (with_reducible refine s_eqlL ?_) | (with_reducible refine ifnt ?_) | (with_reducible refine ifnf ?_) | (with_reducible refine x_eqB ?_) | (with_reducible refine x_neB ?_) | (with_reducible refine x_lssL ?_) | (with_reducible refine x_gtrL ?_) | (with_reducible refine x_geqL ?_) | (with_reducible refine s_neqL ?_) | (with_reducible refine St.load h ?_) | (with_reducible refine St.loadS h ?_) | (with_reducible refine a_fld0 ?_) | (with_reducible refine St.store h fun W h => ?_) | (with_reducible refine St.storeS h fun W h => ?_) | (with_reducible refine St.alloc h fun b W h => ?_) | (with_reducible refine St.allocS h fun b W h => ?_) | (with_reducible refine a_nil ?_) | (with_reducible refine ss_load ?_) | (with_reducible refine ss_loadS ?_) | (with_reducible refine ss_eqb ?_)))
              refine ⟨rfl, rfl, rfl, rfl, hnext (f, q.on 1) _ (by simp only; omega) ⟨h1, by show r.at_ ≤ q.at_ + 1; omega, by show q.at_ + 1 ≤ _; omega, by show q.at_ + 1 ≤ _; omega, fun x hx' => ?_, fun _ => by show r.at_ + most < f + (q.at_ + 1); omega, h7, h⟩⟩
              have e3 : (r.s.drop r.at_).take ((q.on 1).at_ - r.at_) = (r.s.drop r.at_).take (q.at_ - r.at_) ++ [a] := by
                show (r.s.drop r.at_).take (q.at_ + 1 - r.at_) = _
                rw [show q.at_ + 1 - r.at_ = (q.at_ - r.at_) + 1 by omega, List.take_add_one, List.getElem?_drop, show r.at_ + (q.at_ - r.at_) = q.at_ by omega, ← h1, hx]
                rfl
              rw [e3] at hx'
              rcases List.mem_append.1 hx' with hx' | hx'
              · exact h5 x hx'
              · rw [List.mem_singleton.1 hx']; exact hd
          · rw [hpar] at hp
            have hd : (XRd.digB B a).isNone = true := by
              cases hz : XRd.digB B a
              · rfl
              · rw [hz] at hp; cases hp
            refine x_neNil1 (ift ?_)
            exact bad (by rw [hd]; rfl) _ h
        · have h59' : a = 59 := Classical.not_not.1 h59
          rw [if_pos h59'] at h7
          rw [h7] at h
          subst h7
          exact ⟨rfl, h1, h2, by omega, h4, h5, h⟩
    · have : q = Q := by
        rw [← h7]
        cases f
        · rfl
        · unfold XRd.digitsGo; rw [if_neg he]
      subst this
      exact ⟨rfl, h1, h2, h3, h4, h5, h⟩
/-- number -/
theorem number_spec (hT : XTabs w0) [i : Has l b (Xo r c) R] (h : St w0 G0 l W) (hle : r.at_ ≤ r.s.length) (hs : r.s.length ≤ 1000000) (k : ∀ W', St w0 G0 (Ky b (Xo (XRd.number signS r).2 c) :: R) W' → RR (strV (XRd.number signS r).1) W') : CallF Tryz.prog 134 #[.pointer (some ⟨b, 0, none⟩)] W RR := by
  refine sh134_calls ?_
  unfold sh134
  replace h := h.find (k := b) (X := Xo r c)
  unfold XRd.number at k
  dsimp only at k
  have hQs : (if (r.see 0).1 = 120 then XRd.digits 16 6 ((r.see 0).2.on 1) else XRd.digits 10 7 (r.see 0).2).2.Ok := by
    split
    · rename_i hc
      obtain ⟨x, hx, e⟩ := XRd.see_c (r := r) (n := 0) (by rw [hc]; decide)
      have := XRd.lt_of_at hx
      rw [e]
      exact (XRd.stp_digits (r := r.on 1) (by show r.at_ + 1 ≤ r.s.length; omega)).ok
    · exact (XRd.stp_digits (by rw [XRd.see_at, XRd.see_s]; exact hle)).ok
  refine jni (fun vs W' => ∃ (B most : Nat) (q : XRd), vs = [.pointer (some ⟨b, 0, none⟩), nV .i64 B, nV .i64 most] ∧ (B = 10 ∨ B = 16) ∧ most ≤ 7 ∧ q.at_ ≤ q.s.length ∧ q.s.length ≤ 1000000 ∧ (if (r.see 0).1 = 120 then XRd.digits 16 6 ((r.see 0).2.on 1) else XRd.digits 10 7 (r.see 0).2) = XRd.digits B most q ∧ St w0 G0 (Ky b (Xo q c) :: R) W') ?_ ?_
  · rintro vs W _ ⟨B, most, q, rfl, hB, hm, hq1, hq2, he, h⟩
    rw [he] at k
    refine app3 ?_
    refine digits_spec hT (r := q) (c := c) h hq1 hq2 hB hm fun W h => ?_
    generalize XRd.digits B most q = D at *
    obtain ⟨d, D⟩ := D
    refine tsign_spec (a_ext0 (a_ext1 ?_))
    refine jni (fun vs W' => vs = [strV (signS d).1] ∧ St w0 G0 (Ky b (Xo (D.failIf (!(signS d).2 || !XRd.good d) 4) c) :: R) W') (by rintro vs W' _ ⟨rfl, h⟩; exact app1 (k W' h)) ?_
    refine a_not (ifnb (fun hg => ?_) fun hg => ?_)
    · refine fail_spec (r := D) (c := c) h fun W h => ⟨rfl, ?_⟩
      rw [hg]; exact h
    · have hr : (0 ≤ d ∧ d < 55296) ∨ (57343 < d ∧ d ≤ 1114111) := Classical.byContradiction fun hn => by
        unfold signS at hg
        rw [if_neg hn] at hg
        cases hg
      obtain ⟨d, rfl⟩ := Int.eq_ofNat_of_zero_le (show 0 ≤ d by omega)
      refine x_nat (k := .i32) (le_i32 (by omega)) ?_
      refine good_spec (a_not (ifnb (fun hgd => ?_) fun hgd => ?_))
      · refine fail_spec (r := D) (c := c) h fun W h => ⟨rfl, ?_⟩
        rw [hg, hgd]; exact h
      · refine ⟨rfl, ?_⟩
        rw [hg, hgd]; exact h
  · refine see_spec (n := 0) (r := r) (c := c) h (.of_le hle) hs (by decide) fun W h => ?_
    refine w_eqC 120 rfl (ifd (fun hc => ?_) fun hc => ?_)
    · obtain ⟨x, hx, e⟩ := XRd.see_c (r := r) (n := 0) (by rw [hc]; decide)
      have hlt := XRd.lt_of_at hx
      rw [if_pos hc]
      rw [e] at h ⊢
      dsimp only at h ⊢
      (repeat (first | (with_reducible refine ift ?_) | (with_reducible refine iff' ?_) | (with_reducible refine a_lss ?_) | (with_reducible refine a_leq ?_) | (with_reducible refine a_gtr ?_) | (with_reducible refine a_geq ?_) | (with_reducible refine w_eql ?_) | (with_reducible refine w_neq ?_) | (with_reducible refine s_eql ?_) | (with_reducible refine s_neq ?_) | ((with_reducible refine a_add64 ?h0 ?h1 ?_); (case h0 => omega); (case h1 => omega);  skip) | ((with_reducible refine a_sub64 ?h0 ?h1 ?_); (case h0 => omega); (case h1 => omega);  skip) | ((with_reducible refine a_mul64 ?h0 ?h1 ?_); (case h0 => omega); (case h1 => omega);  skip) | (with_reducible refine a_notd ?_) | (with_reducible refine a_not ?_) | (with_reducible refine a_ext0 ?_) | (with_reducible refine a_ext1 ?_) | (with_reducible refine a_ext2 ?_) | (with_reducible refine x_len ?_) | (with_reducible refine x_lens ?_) | (with_reducible refine x_eqb ?_) | (with_reducible refine x_neb ?_) | (with_reducible refine x_nilP ?_) | (with_reducible refine x_nilPn ?_) | (with_reducible refine x_nilF ?_) | (with_reducible refine x_nilFF ?_) | (with_reducible refine w_eqlL ?_) | (with_reducible refine w_neqL ?_) | (with_reducible refine s_eqlL ?_) | (with_reducible refine ifnt ?_) | (with_reducible refine ifnf ?_) | (with_reducible refine x_eqB ?_) | (with_reducible refine x_neB ?_) | (with_reducible refine x_lssL ?_) | (with_reducible refine x_gtrL ?_) | (with_reducible refine x_geqL ?_) | (with_reducible refine s_neqL ?_) | (with_reducible refine St.load h ?_) | (with_reducible refine St.loadS h ?_) | (with_reducible refine a_fld0 ?_) | (with_reducible refine St.store h fun W h => ?_) | (with_reducible refine St.storeS h fun W h => ?_) | (with_reducible refine St.alloc h fun b W h => ?_) | (with_reducible refine St.allocS h fun b W h => ?_) | (with_reducible refine a_nil ?_) | (with_reducible refine ss_load ?_) | (with_reducible refine ss_loadS ?_) | (with_reducible refine ss_eqb ?_)))
      exact ⟨16, 6, r.on 1, rfl, .inr rfl, by decide, by show r.at_ + 1 ≤ r.s.length; omega, hs, rfl, h⟩
    · rw [if_neg hc]
      exact ⟨10, 7, (r.see 0).2, rfl, .inl rfl, by decide, by rw [XRd.see_at, XRd.see_s]; exact hle, by rw [XRd.see_s]; exact hs, rfl, h⟩
end
end Go.Proofs.YtlflpbflpcmckaaGreatDoor
namespace Go.Proofs.YtlflpbflpcmckaaGreatDoor
open Go Go.Ez Go.RowKit Go.Lib
set_option linter.unusedSimpArgs false
set_option linter.unusedVariables false
theorem ref_short {rest : Txt} {l : List (Txt × Txt)} {b : Bool} {n : Txt × Txt} {r : XRd} (h : XRd.isPre n.1 rest = false) : XRd.refGo rest (n :: l) b r = XRd.refGo rest l (b || XRd.isPre rest n.1) r := by
  conv => lhs; unfold XRd.refGo
  rw [h]; rfl
section
variable {w0 W W' : World} {G : Nat → Prop} {l R : List As} {RR : Value → World → Prop} {t s p : Txt} {c : XC} {x : UInt8} {b n : Nat} {r : XRd}
theorem reference_spec (hT : XTabs w0) [i : Has l b (Xo r c) R] (h : St w0 G0 l W) (hle : r.at_ ≤ r.s.length) (hs : r.s.length ≤ 1000000) (k : ∀ W', St w0 G0 (Ky b (Xo (XRd.reference signS r).2 c) :: R) W' → RR (strV (XRd.reference signS r).1) W') : CallF Tryz.prog 111 #[.pointer (some ⟨b, 0, none⟩)] W RR := by
  refine sh111_calls ?_
  unfold sh111
  replace h := h.find (k := b) (X := Xo r c)
  unfold XRd.reference at k
  refine h.lit fun v1 W o1 h => ?_
  refine h.lit fun v2 W o2 h => ?_
  refine ⟨St w0 G0 _, h.drew, ?_⟩
  replace h := h.drew
  (repeat (first | (with_reducible refine ift ?_) | (with_reducible refine iff' ?_) | (with_reducible refine a_lss ?_) | (with_reducible refine a_leq ?_) | (with_reducible refine a_gtr ?_) | (with_reducible refine a_geq ?_) | (with_reducible refine w_eql ?_) | (with_reducible refine w_neq ?_) | (with_reducible refine s_eql ?_) | (with_reducible refine s_neq ?_) | ((with_reducible refine a_add64 ?h0 ?h1 ?_); (case h0 => omega); (case h1 => omega);  skip) | ((with_reducible refine a_sub64 ?h0 ?h1 ?_); (case h0 => omega); (case h1 => omega);  skip) | ((with_reducible refine a_mul64 ?h0 ?h1 ?_); (case h0 => omega); (case h1 => omega);  skip) | (with_reducible refine a_notd ?_) | (with_reducible refine a_not ?_) | (with_reducible refine a_ext0 ?_) | (with_reducible refine a_ext1 ?_) | (with_reducible refine a_ext2 ?_) | (with_reducible refine x_len ?_) | (with_reducible refine x_lens ?_) | (with_reducible refine x_eqb ?_) | (with_reducible refine x_neb ?_) | (with_reducible refine x_nilP ?_) | (with_reducible refine x_nilPn ?_) | (with_reducible refine x_nilF ?_) | (with_reducible refine x_nilFF ?_) | (with_reducible refine w_eqlL ?_) | (with_reducible refine w_neqL ?_) | (with_reducible refine s_eqlL ?_) | (with_reducible refine ifnt ?_) | (with_reducible refine ifnf ?_) | (with_reducible refine x_eqB ?_) | (with_reducible refine x_neB ?_) | (with_reducible refine x_lssL ?_) | (with_reducible refine x_gtrL ?_) | (with_reducible refine x_geqL ?_) | (with_reducible refine s_neqL ?_) | (with_reducible refine St.load h ?_) | (with_reducible refine St.loadS h ?_) | (with_reducible refine a_fld0 ?_) | (with_reducible refine St.store h fun W h => ?_) | (with_reducible refine St.storeS h fun W h => ?_) | (with_reducible refine St.alloc h fun b W h => ?_) | (with_reducible refine St.allocS h fun b W h => ?_) | (with_reducible refine a_nil ?_) | (with_reducible refine ss_load ?_) | (with_reducible refine ss_loadS ?_) | (with_reducible refine ss_eqb ?_)))
  refine x_cutL (by omega) ?_
  refine pre_spec (p := [35]) (s := r.rest) (ifb (fun hp => ?_) fun hp => ?_)
  · rw [if_pos hp] at k
    have hlen := XRd.isPre_len hp
    rw [XRd.rest_len] at hlen
    have h1 : ([35] : Txt).length = 1 := rfl
    (repeat (first | (with_reducible refine ift ?_) | (with_reducible refine iff' ?_) | (with_reducible refine a_lss ?_) | (with_reducible refine a_leq ?_) | (with_reducible refine a_gtr ?_) | (with_reducible refine a_geq ?_) | (with_reducible refine w_eql ?_) | (with_reducible refine w_neq ?_) | (with_reducible refine s_eql ?_) | (with_reducible refine s_neq ?_) | ((with_reducible refine a_add64 ?h0 ?h1 ?_); (case h0 => omega); (case h1 => omega);  skip) | ((with_reducible refine a_sub64 ?h0 ?h1 ?_); (case h0 => omega); (case h1 => omega);  skip) | ((with_reducible refine a_mul64 ?h0 ?h1 ?_); (case h0 => omega); (case h1 => omega);  skip) | (with_reducible refine a_notd ?_) | (with_reducible refine a_not ?_) | (with_reducible refine a_ext0 ?_) | (with_reducible refine a_ext1 ?_) | (with_reducible refine a_ext2 ?_) | (with_reducible refine x_len ?_) | (with_reducible refine x_lens ?_) | (with_reducible refine x_eqb ?_) | (with_reducible refine x_neb ?_) | (with_reducible refine x_nilP ?_) | (with_reducible refine x_nilPn ?_) | (with_reducible refine x_nilF ?_) | (with_reducible refine x_nilFF ?_) | (with_reducible refine w_eqlL ?_) | (with_reducible refine w_neqL ?_) | (with_reducible refine s_eqlL ?_) | (with_reducible refine ifnt ?_) | (with_reducible refine ifnf ?_) | (with_reducible refine x_eqB ?_) | (with_reducible refine x_neB ?_) | (with_reducible refine x_lssL ?_) | (with_reducible refine x_gtrL ?_) | (with_reducible refine x_geqL ?_) | (with_reducible refine s_neqL ?_) | (with_reducible refine St.load h ?_) | (with_reducible refine St.loadS h ?_) | (with_reducible refine a_fld0 ?_) | (with_reducible refine St.store h fun W h => ?_) | (with_reducible refine St.storeS h fun W h => ?_) | (with_reducible refine St.alloc h fun b W h => ?_) | (with_reducible refine St.allocS h fun b W h => ?_) | (with_reducible refine a_nil ?_) | (with_reducible refine ss_load ?_) | (with_reducible refine ss_loadS ?_) | (with_reducible refine ss_eqb ?_)))
    refine number_spec hT (r := r.on 1) (c := c) h (by show r.at_ + 1 ≤ r.s.length; omega) hs fun W h => ?_
    exact k W h.to
  · rw [if_neg (by rw [hp]; decide)] at k
    refine x_lenS (h.osl (v := v1)) ?_
    generalize hQ : XRd.refGo r.rest XRd.refNames false r = Q at k
    refine lpx (α := Nat × Bool) (fun A => [.bool A.2, nV .i64 A.1]) (fun A W' => A.1 ≤ 5 ∧ XRd.refGo r.rest (XRd.refNames.drop A.1) A.2 r = Q ∧ St w0 G0 (Ky v2 (Ow 9 1 5 [strV [60], strV [62], strV [38], strV [34], strV [39]]) :: Ky v1 (Ow 9 1 5 [strV [108, 116, 59], strV [103, 116, 59], strV [97, 109, 112, 59], strV [113, 117, 111, 116, 59], strV [97, 112, 111, 115, 59]]) :: Ky b (Xo r c) :: R) W') (fun A => 5 - A.1) (0, false) (fun _ => rfl) rfl ⟨by decide, hQ, h⟩ ?_
    clear h
    rintro next ⟨i, sh⟩ W1 hnext ⟨h1, h2, h⟩
    simp only at h1 h2 h
    refine app2 ?_
    refine a_lss (ifd (fun hc => ?_) fun hc => ?_)
    · have hi : i < 5 := by omega
      obtain ⟨nm, hn1, hn2, hn3, hnl⟩ : ∃ nm : Txt × Txt, XRd.refNames.drop i = nm :: XRd.refNames.drop (i + 1) ∧ [strV [108, 116, 59], strV [103, 116, 59], strV [97, 109, 112, 59], strV [113, 117, 111, 116, 59], strV [97, 112, 111, 115, 59]][i]? = some (strV nm.1) ∧ [strV [60], strV [62], strV [38], strV [34], strV [39]][i]? = some (strV nm.2) ∧ nm.1.length ≤ 5 := by
        match i, hi with
        | 0, _ => exact ⟨([108, 116, 59], [60]), rfl, rfl, rfl, by decide⟩
        | 1, _ => exact ⟨([103, 116, 59], [62]), rfl, rfl, rfl, by decide⟩
        | 2, _ => exact ⟨([97, 109, 112, 59], [38]), rfl, rfl, rfl, by decide⟩
        | 3, _ => exact ⟨([113, 117, 111, 116, 59], [34]), rfl, rfl, rfl, by decide⟩
        | 4, _ => exact ⟨([97, 112, 111, 115, 59], [39]), rfl, rfl, rfl, by decide⟩
      rw [hn1] at h2
      refine x_at (h.osl (v := v1)) hn2 ?_
      refine pre_spec (p := nm.1) (s := r.rest) (ifb (fun hpre => ?_) fun hpre => ?_)
      · have : Q = (nm.2, r.on nm.1.length) := by
          rw [← h2]
          unfold XRd.refGo
          rw [if_pos hpre]
        rw [this] at k
        have hlen := XRd.isPre_len hpre
        rw [XRd.rest_len] at hlen
        (repeat (first | (with_reducible refine ift ?_) | (with_reducible refine iff' ?_) | (with_reducible refine a_lss ?_) | (with_reducible refine a_leq ?_) | (with_reducible refine a_gtr ?_) | (with_reducible refine a_geq ?_) | (with_reducible refine w_eql ?_) | (with_reducible refine w_neq ?_) | (with_reducible refine s_eql ?_) | (with_reducible refine s_neq ?_) | ((with_reducible refine a_add64 ?h0 ?h1 ?_); (case h0 => omega); (case h1 => omega);  skip) | ((with_reducible refine a_sub64 ?h0 ?h1 ?_); (case h0 => omega); (case h1 => omega);  skip) | ((with_reducible refine a_mul64 ?h0 ?h1 ?_); (case h0 => omega); (case h1 => omega);  skip) | (with_reducible refine a_notd ?_) | (with_reducible refine a_not ?_) | (with_reducible refine a_ext0 ?_) | (with_reducible refine a_ext1 ?_) | (with_reducible refine a_ext2 ?_) | (with_reducible refine x_len ?_) | (with_reducible refine x_lens ?_) | (with_reducible refine x_eqb ?_) | (with_reducible refine x_neb ?_) | (with_reducible refine x_nilP ?_) | (with_reducible refine x_nilPn ?_) | (with_reducible refine x_nilF ?_) | (with_reducible refine x_nilFF ?_) | (with_reducible refine w_eqlL ?_) | (with_reducible refine w_neqL ?_) | (with_reducible refine s_eqlL ?_) | (with_reducible refine ifnt ?_) | (with_reducible refine ifnf ?_) | (with_reducible refine x_eqB ?_) | (with_reducible refine x_neB ?_) | (with_reducible refine x_lssL ?_) | (with_reducible refine x_gtrL ?_) | (with_reducible refine x_geqL ?_) | (with_reducible refine s_neqL ?_) | (with_reducible refine St.load h ?_) | (with_reducible refine St.loadS h ?_) | (with_reducible refine a_fld0 ?_) | (with_reducible refine St.store h fun W h => ?_) | (with_reducible refine St.storeS h fun W h => ?_) | (with_reducible refine St.alloc h fun b W h => ?_) | (with_reducible refine St.allocS h fun b W h => ?_) | (with_reducible refine a_nil ?_) | (with_reducible refine ss_load ?_) | (with_reducible refine ss_loadS ?_) | (with_reducible refine ss_eqb ?_)))
        refine x_at (h.osl (v := v2)) hn3 ?_
        exact k _ (St.to (l := Ky b (Xo (r.on nm.1.length) c) :: Ky v2 (Ow 9 1 5 [strV [60], strV [62], strV [38], strV [34], strV [39]]) :: Ky v1 (Ow 9 1 5 [strV [108, 116, 59], strV [103, 116, 59], strV [97, 109, 112, 59], strV [113, 117, 111, 116, 59], strV [97, 112, 111, 115, 59]]) :: R) h)
      · rw [ref_short hpre] at h2
        refine jni (fun vs W' => vs = [.pointer (some ⟨b, 0, none⟩), v2, strV r.rest, .bool (sh || XRd.isPre r.rest nm.1), v1, nV .i64 5, nV .i64 i] ∧ W' = W1) ?_ ?_
        · rintro vs W _ ⟨rfl, rfl⟩
          refine app7 ?_
          refine a_add64 (by omega) (by omega) ⟨rfl, rfl, rfl, rfl, rfl, ?_⟩
          rw [show ((i : Int) + 1) = ((i + 1 : Nat) : Int) by push_cast; rfl]
          exact hnext (i + 1, sh || XRd.isPre r.rest nm.1) _ (by simp only; omega) ⟨by simp only; omega, h2, h⟩
        · refine ifb (fun hsh => ?_) fun hsh => ?_ <;> replace hsh : sh = _ := hsh
          · exact ⟨by rw [hsh]; rfl, rfl⟩
          · exact pre_spec (p := r.rest) (s := nm.1) ⟨by rw [hsh]; rfl, rfl⟩
    · have hi : i = 5 := by omega
      subst hi
      have : Q = ([], (r.failIf sh 2).fail 4) := h2.symm
      rw [this] at k
      refine jni (fun vs W' => vs = [.pointer (some ⟨b, 0, none⟩)] ∧ St w0 G0 (Ky b (Xo (r.failIf sh 2) c) :: R) W') ?_ ?_
      · rintro vs W _ ⟨rfl, h⟩
        refine app1 ?_
        exact fail_spec (r := r.failIf sh 2) (c := c) h fun W h => k W h
      · refine ifb (fun hsh => ?_) fun hsh => ?_ <;> replace hsh : sh = _ := hsh
        · refine fail_spec (r := r) (c := c) h fun W h => ⟨rfl, ?_⟩
          rw [hsh]; show St w0 G0 (Ky b (Xo (r.fail 2) c) :: R) _; exact h.to
        · refine ⟨rfl, ?_⟩
          rw [hsh]; show St w0 G0 (Ky b (Xo r c) :: R) _; exact h.to
/-- a builder's length -/
theorem blen_spec {g : Nat} [i : Has l g (Bu t) R] (h : St w0 G l W) (k : RR (nV .i64 t.length) W) : CallF Tryz.prog 155 #[.pointer (some ⟨g, 0, none⟩)] W RR := by
  refine sh155_calls ?_
  unfold sh155
  obtain ⟨u, v, o, h⟩ := buOpen (b := g) (t := t) h
  refine a_nil (a_fld0 (h.load ?_))
  exact x_lenS (h.osl (v := v)) k
/-- part -/
theorem part_spec (hT : XTabs w0) [i : Has l b (Xo r c) R] (h : St w0 G0 l W) (hok : r.Ok) (hs : r.s.length ≤ 1000000) (k : ∀ W', St w0 G0 (Ky b (Xo (XRd.part decX signS r).2 c) :: R) W' → RR (strV (XRd.part decX signS r).1) W') : CallF Tryz.prog 80 #[.pointer (some ⟨b, 0, none⟩)] W RR := by
  refine sh80_calls ?_
  unfold sh80
  replace h := h.find (k := b) (X := Xo r c)
  unfold XRd.part at k
  refine see_spec (n := 0) (r := r) (c := c) h hok hs (by decide) fun W h => ?_
  refine w_eqC 38 rfl (ifd (fun hc => ?_) fun hc => ?_)
  · obtain ⟨x, hx, e⟩ := XRd.see_c (r := r) (n := 0) (by rw [hc]; decide)
    have hlt := XRd.lt_of_at hx
    rw [if_pos hc] at k
    rw [e] at h k
    dsimp only at h k
    (repeat (first | (with_reducible refine ift ?_) | (with_reducible refine iff' ?_) | (with_reducible refine a_lss ?_) | (with_reducible refine a_leq ?_) | (with_reducible refine a_gtr ?_) | (with_reducible refine a_geq ?_) | (with_reducible refine w_eql ?_) | (with_reducible refine w_neq ?_) | (with_reducible refine s_eql ?_) | (with_reducible refine s_neq ?_) | ((with_reducible refine a_add64 ?h0 ?h1 ?_); (case h0 => omega); (case h1 => omega);  skip) | ((with_reducible refine a_sub64 ?h0 ?h1 ?_); (case h0 => omega); (case h1 => omega);  skip) | ((with_reducible refine a_mul64 ?h0 ?h1 ?_); (case h0 => omega); (case h1 => omega);  skip) | (with_reducible refine a_notd ?_) | (with_reducible refine a_not ?_) | (with_reducible refine a_ext0 ?_) | (with_reducible refine a_ext1 ?_) | (with_reducible refine a_ext2 ?_) | (with_reducible refine x_len ?_) | (with_reducible refine x_lens ?_) | (with_reducible refine x_eqb ?_) | (with_reducible refine x_neb ?_) | (with_reducible refine x_nilP ?_) | (with_reducible refine x_nilPn ?_) | (with_reducible refine x_nilF ?_) | (with_reducible refine x_nilFF ?_) | (with_reducible refine w_eqlL ?_) | (with_reducible refine w_neqL ?_) | (with_reducible refine s_eqlL ?_) | (with_reducible refine ifnt ?_) | (with_reducible refine ifnf ?_) | (with_reducible refine x_eqB ?_) | (with_reducible refine x_neB ?_) | (with_reducible refine x_lssL ?_) | (with_reducible refine x_gtrL ?_) | (with_reducible refine x_geqL ?_) | (with_reducible refine s_neqL ?_) | (with_reducible refine St.load h ?_) | (with_reducible refine St.loadS h ?_) | (with_reducible refine a_fld0 ?_) | (with_reducible refine St.store h fun W h => ?_) | (with_reducible refine St.storeS h fun W h => ?_) | (with_reducible refine St.alloc h fun b W h => ?_) | (with_reducible refine St.allocS h fun b W h => ?_) | (with_reducible refine a_nil ?_) | (with_reducible refine ss_load ?_) | (with_reducible refine ss_loadS ?_) | (with_reducible refine ss_eqb ?_)))
    exact reference_spec hT (r := r.on 1) (c := c) h (by show r.at_ + 1 ≤ r.s.length; omega) hs fun W h => k W h
  · rw [if_neg hc] at k
    exact sign_spec hT (r := (r.see 0).2) (c := c) h (XRd.stp_see hok).ok (by rw [XRd.see_s]; exact hs) fun W h => k W h
/-- a part is no longer than what it takes -/
theorem part_len : (XRd.part decX signS r).1.length ≤ r.s.length + 4 := by
  have hsg : ∀ d, (signS d).1.length ≤ 4 := fun d => by
    unfold signS
    split
    · exact (utf_len _).2
    · decide
  have href : ∀ (l : List (Txt × Txt)) (rest : Txt) (sh : Bool) (q : XRd), (∀ n ∈ l, n.2.length ≤ 4) → (XRd.refGo rest l sh q).1.length ≤ 4 := by
    intro l
    induction l with
    | nil => intro rest sh q _; exact Nat.zero_le _
    | cons n l ih =>
      intro rest sh q hn
      unfold XRd.refGo
      split
      · exact hn n (by simp)
      · exact ih _ _ _ fun m hm => hn m (by simp [hm])
  unfold XRd.part
  split
  · unfold XRd.reference
    split
    · exact Nat.le_trans (hsg _) (Nat.le_add_left _ _)
    · exact Nat.le_trans (href _ _ _ _ (by decide)) (Nat.le_add_left _ _)
  · unfold XRd.sign
    split
    · exact Nat.zero_le _
    · split
      · exact Nat.zero_le _
      · rw [List.length_take, XRd.rest_len, XRd.see_s]
        omega
/-- value -/
theorem value_spec (hT : XTabs w0) [i : Has l b (Xo r c) R] (h : St w0 G0 l W) (hle : r.at_ ≤ r.s.length) (hs : r.s.length ≤ 30000) (k : ∀ W', St w0 G0 (Ky b (Xo (XRd.value decX signS r).2 c) :: R) W' → RR (strV (XRd.value decX signS r).1) W') : CallF Tryz.prog 131 #[.pointer (some ⟨b, 0, none⟩)] W RR := by
  refine sh131_calls ?_
  unfold sh131
  replace h := h.find (k := b) (X := Xo r c)
  unfold XRd.value at k
  dsimp only at k
  have hst := XRd.stp_see (n := 0) (XRd.Ok.of_le hle)
  refine see_spec (n := 0) (r := r) (c := c) h (.of_le hle) (by omega) (by decide) fun W h => ?_
  generalize hF : (r.see 0).2.failIf (decide ((r.see 0).2.e = 0 ∧ (r.see 0).1 ≠ 34 ∧ (r.see 0).1 ≠ 39)) 4 = F at k
  generalize hq : (r.see 0).1 = q at *
  have hFa : F.at_ = r.at_ := by rw [← hF, XRd.failIf_at, XRd.see_at]
  have hFs : F.s = r.s := by rw [← hF, XRd.failIf_s, XRd.see_s]
  have hF1 : (F.on 1).Ok := by
    refine ⟨by show F.at_ + 1 ≤ F.s.length + 1; rw [hFa, hFs]; omega, fun he => ?_⟩
    obtain ⟨_, e2⟩ := XRd.failIf_e (by decide) (show ((r.see 0).2.failIf _ 4).e = 0 by rw [hF]; exact he)
    rw [hF] at e2
    obtain ⟨x, hx, _⟩ := XRd.see_e (r := r) (n := 0) (by rw [← e2]; exact he)
    have := XRd.lt_of_at hx
    show F.at_ + 1 ≤ F.s.length
    rw [hFa, hFs]; omega
  refine jni (fun vs W' => vs = [.pointer (some ⟨b, 0, none⟩), byteV q] ∧ St w0 G0 (Ky b (Xo F c) :: R) W') ?_ ?_
  · rintro vs W _ ⟨rfl, h⟩
    refine app2 ?_
    refine a_nil (a_fld0 (h.load ?_))
    refine a_add64 (by omega) (by omega) ?_
    refine a_nil (a_fld0 (h.store fun W h => ?_))
    refine h.allocS fun g W h => ?_
    replace h := buNew (b := g) h
    replace h : St w0 G0 (Ky g (Bu []) :: Ky b (Xo (F.on 1) c) :: R) W := h
    generalize hQ : XRd.valGo decX signS q (r.s.length + 3) [] (F.on 1) = Q at k
    refine lpx (α := Nat × Txt × XRd) (fun _ => []) (fun A W' => A.2.2.Ok ∧ A.2.2.s = r.s ∧ A.2.1.length + A.1 * 100000 ≤ (r.s.length + 3) * 100000 ∧ (A.2.2.e = 0 → r.s.length < A.1 + A.2.2.at_) ∧ XRd.valGo decX signS q A.1 A.2.1 A.2.2 = Q ∧ St w0 G0 (Ky g (Bu A.2.1) :: Ky b (Xo A.2.2 c) :: R) W') (fun A => A.1) (r.s.length + 3, [], F.on 1) (fun _ => rfl) rfl
      ⟨hF1, hFs, by simp, fun _ => by simp only; omega, hQ, h⟩ ?_
    clear h
    rintro next ⟨f, t, z⟩ W1 hnext ⟨h1, h2, h3, h4, h5, h⟩
    simp only at h1 h2 h3 h4 h5 h
    refine app0 ?_
    have hsl : z.s.length = r.s.length := by rw [h2]
    refine a_nil (a_fld0 (h.load ?_))
    refine w_eql (ifd (fun he => ?_) fun he => ?_)
    · have h4' := h4 he
      have hzl := h1.le he
      obtain ⟨f, rfl⟩ : ∃ g, f = g + 1 := ⟨f - 1, by omega⟩
      have h3' : t.length + f * 100000 ≤ (r.s.length + 3) * 100000 := Nat.le_trans (Nat.add_le_add_left (Nat.mul_le_mul_right _ (Nat.le_succ f)) _) h3
      unfold XRd.valGo at h5
      rw [if_neg (fun hn => hn he)] at h5
      dsimp only at h5
      have hzs := XRd.stp_see (n := 0) h1
      refine see_spec (n := 0) (r := z) (c := c) h h1 (by omega) (by decide) fun W h => ?_
      refine jni (fun vs W' => ∃ (t' : Txt) (z' : XRd), vs = [.pointer (some ⟨b, 0, none⟩), byteV q, .pointer (some ⟨g, 0, none⟩)] ∧ z'.Ok ∧ z'.s = r.s ∧ t'.length + f * 100000 ≤ (r.s.length + 3) * 100000 ∧ (z'.e = 0 → r.s.length < f + z'.at_) ∧ XRd.valGo decX signS q f t' z' = Q ∧ St w0 G0 (Ky g (Bu t') :: Ky b (Xo z' c) :: R) W') ?_ ?_
      · rintro vs W _ ⟨t', z', rfl, g1, g2, g3, g4, g5, h⟩
        refine app3 ⟨rfl, rfl, rfl, ?_⟩
        exact hnext (f, t', z') W (by simp only; omega) ⟨g1, g2, g3, g4, g5, h⟩
      · refine a_nil (a_fld0 (h.load ?_))
        refine w_neq (ifd (fun hx => ?_) fun hx => ?_)
        · rw [if_pos hx] at h5
          exact ⟨t, (z.see 0).2, rfl, hzs.ok, hzs.s.trans h2, h3', fun h0 => absurd h0 hx, h5, h.to⟩
        rw [if_neg hx] at h5
        obtain ⟨x, hxs, hxe⟩ := XRd.see_e (Classical.not_not.1 hx)
        have hlt := XRd.lt_of_at hxs
        rw [hxe] at h h5 ⊢
        dsimp only at h h5 ⊢
        refine x_eqB (ifd (fun hxq => ?_) fun hxq => ?_)
        · rw [if_pos hxq] at h5
          refine a_nil (a_fld0 (h.load ?_))
          refine a_add64 (by omega) (by omega) ?_
          refine a_nil (a_fld0 (h.store fun W h => ?_))
          replace h : St w0 G0 (Ky b (Xo (z.on 1) c) :: Ky g (Bu t) :: R) W := h
          refine jni (fun vs W' => vs = [.pointer (some ⟨g, 0, none⟩)] ∧ St w0 G0 (Ky g (Bu t) :: Ky b (Xo ((z.on 1).failIf (decide (8000 < t.length)) 3) c) :: R) W') ?_ ?_
          · rintro vs W _ ⟨rfl, h⟩
            refine app1 ?_
            refine bstr_spec (b := g) (t := t) h (by omega) fun W h => ?_
            rw [← h5] at k
            exact k W h
          · refine blen_spec (g := g) (t := t) h ?_
            refine a_gtr (ifd (fun hg => ?_) fun hg => ?_)
            · refine fail_spec (r := z.on 1) (c := c) h fun W h => ⟨rfl, ?_⟩
              rw [decide_eq_true (by omega)]
              show St w0 G0 (Ky g (Bu t) :: Ky b (Xo ((z.on 1).fail 3) c) :: R) _
              exact h.to
            · refine ⟨rfl, ?_⟩
              rw [decide_eq_false (by omega)]
              show St w0 G0 (Ky g (Bu t) :: Ky b (Xo (z.on 1) c) :: R) _
              exact h.to
        rw [if_neg hxq] at h5
        refine jni (fun vs W' => ∃ (t' : Txt) (z' : XRd), vs = [.pointer (some ⟨b, 0, none⟩), byteV q, .pointer (some ⟨g, 0, none⟩)] ∧ z'.Ok ∧ z'.s = r.s ∧ t'.length + f * 100000 ≤ (r.s.length + 3) * 100000 ∧ (z'.e = 0 → r.s.length < f + z'.at_) ∧ XRd.valGo decX signS q f t' z' = Q ∧ St w0 G0 (Ky g (Bu t') :: Ky b (Xo z' c) :: R) W') (by rintro vs W _ ⟨t', z', rfl, hh⟩; exact app3 ⟨t', z', rfl, hh⟩) ?_
        refine w_eqC 60 rfl (ifd (fun h60 => ?_) fun h60 => ?_)
        · rw [if_pos h60] at h5
          refine fail_spec (r := z) (c := c) h fun W h => ?_
          exact ⟨t, z.fail 4, rfl, (XRd.stp_fail (by decide) h1.lt).ok, XRd.fail_s.trans h2, h3', fun h0 => absurd h0 (XRd.fail_ne (by decide)), h5, h.to⟩
        · rw [if_neg h60] at h5
          have hpl := part_len (r := z)
          have hps := XRd.stp_part (sgn := signS) decX_ok h1
          have hpa := XRd.adv_part (sgn := signS) decX_ok h1
          refine part_spec hT (r := z) (c := c) h h1 (by omega) fun W h => ?_
          refine wstr_spec (b := g) (t := t) h (by omega) fun W h => ?_
          have h3'' : (t ++ (XRd.part decX signS z).1).length + f * 100000 ≤ (r.s.length + 3) * 100000 := by rw [List.length_append]; omega
          refine ⟨t ++ (XRd.part decX signS z).1, (XRd.part decX signS z).2, rfl, hps.ok, hps.s.trans h2, h3'', fun h0 => ?_, h5, h⟩
          have := hpa h0
          omega
    · have : Q = ([], z) := by
        rw [← h5]
        cases f
        · rfl
        · unfold XRd.valGo; rw [if_pos he]
      rw [this] at k
      exact k W1 h.to
  · refine a_nil (a_fld0 (h.load ?_))
    refine w_eql (ifd (fun he => ?_) fun he => ?_)
    · refine w_neC 34 rfl (ifd (fun h34 => w_neC 39 rfl (ifd (fun h39 => ?_) fun h39 => ?_)) fun h34 => ?_)
      · refine fail_spec (r := (r.see 0).2) (c := c) h fun W h => ⟨rfl, ?_⟩
        rw [decide_eq_true ⟨he, h34, h39⟩] at hF
        rw [← hF]; exact h
      · refine ⟨rfl, ?_⟩
        rw [decide_eq_false (fun hx => h39 hx.2.2)] at hF
        rw [← hF]; exact h
      · refine ⟨rfl, ?_⟩
        rw [decide_eq_false (fun hx => h34 hx.2.1)] at hF
        rw [← hF]; exact h
    · refine ⟨rfl, ?_⟩
      rw [decide_eq_false (fun hx => he hx.1)] at hF
      rw [← hF]; exact h
end
end Go.Proofs.YtlflpbflpcmckaaGreatDoor
namespace Go.Ez
open Go
set_option linter.unusedSimpArgs false
set_option linter.unusedVariables false
section
variable {α : Type} {f : α → List Value} {sz : Nat}
def rcells (f : α → List Value) (l : List α) : List Value := l.flatMap f
theorem rc_cons (a : α) (l : List α) : rcells f (a :: l) = f a ++ rcells f l := List.flatMap_cons ..
theorem rc_single (a : α) : rcells f [a] = f a := by simp [rcells]
theorem rc_append (a b : List α) : rcells f (a ++ b) = rcells f a ++ rcells f b := by simp [rcells]
theorem rc_get (hf : ∀ a, (f a).length = sz) : ∀ {l : List α} {i j : Nat} {o : α}, l[i]? = some o → j < sz → (rcells f l)[i * sz + j]? = (f o)[j]?
  | o :: l, 0, j, _, h, hj => by
    cases h
    rw [rc_cons, Nat.zero_mul, Nat.zero_add, List.getElem?_append_left (by rw [hf]; exact hj)]
  | o :: l, i + 1, j, q, h, hj => by
    have := rc_get hf (l := l) (i := i) (by simpa using h) hj
    have e : (i + 1) * sz + j = sz + (i * sz + j) := by rw [Nat.succ_mul]; omega
    rw [rc_cons, e, List.getElem?_append_right (by rw [hf]; omega), hf, Nat.add_sub_cancel_left]
    exact this
theorem rc_take (hf : ∀ a, (f a).length = sz) : ∀ (l : List α) (i : Nat), rcells f (l.take i) = (rcells f l).take (i * sz)
  | [], i => by simp [rcells]
  | a :: l, 0 => by simp [rcells]
  | a :: l, i + 1 => by
    rw [List.take_succ_cons, rc_cons, rc_cons, rc_take hf l i, Nat.succ_mul, Nat.add_comm (i * sz) sz, ← hf a, List.take_length_add_append]
theorem rc_drop (hf : ∀ a, (f a).length = sz) : ∀ (l : List α) (i : Nat), rcells f (l.drop i) = (rcells f l).drop (i * sz)
  | [], i => by simp [rcells]
  | a :: l, 0 => by simp
  | a :: l, i + 1 => by
    rw [List.drop_succ_cons, rc_cons, rc_drop hf l i, Nat.succ_mul, Nat.add_comm (i * sz) sz, ← hf a, List.drop_length_add_append]
theorem rc_one (h1 : ∀ a, ∀ c ∈ f a, c.oneCell' = true) (l : List α) : ∀ c ∈ rcells f l, c.oneCell' = true := by
  intro c hc
  unfold rcells at hc
  rw [List.mem_flatMap] at hc
  obtain ⟨d, _, hd⟩ := hc
  exact h1 d c hd
end
end Go.Ez
namespace Go.Proofs.YtlflpbflpcmckaaGreatDoor
open Go Go.Ez Go.RowKit Go.Lib
set_option linter.unusedSimpArgs false
set_option linter.unusedVariables false
/-- a pair's cells -/
abbrev prc (p : XPr) : List Value := [strV p.pre, strV p.name, strV p.value]
theorem prc_len (p : XPr) : (prc p).length = 3 := rfl
section
variable {P : Program} {w0 w1 W W' : World} {G : Nat → Prop} {l R : List As} {K : Value → Prop} {KW : Value → World → Prop}
/-- a part of a block, as a struct -/
theorem St.loadP {b o n : Nat} {t e : TypeId} {all cs zs : List Value} [i : Has l b (Ob (.cells all.toArray t (0, 0))) R] [T : TyS P e n zs] [l1 : Len cs n] (h : St w0 G l W) (hx : ∀ j u, cs[j]? = some u → all[o + j]? = some u) (k : K (.agg cs.toArray)) : RunW P (Instr.loadAt e (.pointer (some ⟨b, o, none⟩))) W K :=
  x_lds (cs := cs) l1.eq (fun j u hu => (h.rc (b := b) (t := t) (cs := all)).cell (hx j u hu)) k
/-- a struct of a slice -/
theorem x_rcl {α : Type} {f : α → List Value} {sz : Nat} (hf : ∀ a, (f a).length = sz) {L : List α} {i n : Nat} {a : α} {t e : TypeId} {bytes : Nat} {z v : Value} {zs : List Value} {k0 : IntKind} [S : SlT P t e sz bytes z] [T : TyS P e sz zs] (hs : Sl W sz v n (rcells f L)) (hn : n = L.length) (hi : L[i]? = some a) (k : K (.agg (f a).toArray)) :
    RunA P (Instr.indexAt t v (.int k0 (i : Int))) fun q => RunW P (Instr.loadAt e q) W K := by
  have hil := (List.getElem?_eq_some_iff.1 hi).1
  refine x_idx hs (by omega) fun b o hc => x_lds (cs := f a) (hf a) (fun j u hu => ?_) k
  have hj : j < sz := by have := (List.getElem?_eq_some_iff.1 hu).1; rw [hf] at this; exact this
  exact hc j u hj (by rw [rc_get hf hi hj]; exact hu)
end
theorem fieldsOf_of {P : Program} {t : TypeId} {fs : Array Field} (h : P.underlying t = some (.struct fs)) : P.fieldsOf t = fs := by unfold Program.fieldsOf; rw [h]
theorem full_eqIn {a b c d : Txt} (w : World) : (Op.equalIn 10000 118 (.agg #[strV a, strV b]) (.agg #[strV c, strV d])).run Tryz.prog w = .ok (decide (a = c ∧ b = d)) w := by
  have hf := fieldsOf_of Tryz.underlying118
  have ht : Tryz.prog.underlying 118 = some (.struct (Tryz.prog.fieldsOf 118)) := Tryz.underlying118.trans (by rw [hf])
  have hs : Tryz.prog.stoodInHeld 118 = false := by kernel_rfl
  have es : ∀ (d : Nat) (a b : List UInt8), (Op.equalIn (d + 1) 9 (strV a) (strV b)).run Tryz.prog w = .ok (decide (a = b)) w := fun d a b => by
    rw [run_equalIn_string w d 9 _ _ Tryz.underlying9]
    rw [bytes_eq]
  rw [run_equalIn_agg w 9999 118 _ _ ht hs, hf]
  by_cases h1 : a = c <;> by_cases h2 : b = d <;> simp [Op.eqFields, go_sem, es 9998, h1, h2, Result.andThen]
theorem w_eqFull {K : Value → Prop} {X Y : Operand} {a b c d : Txt} {w : World} (h : K (.bool (decide (a = c ∧ b = d)))) : RunW Tryz.prog (bin .eql 118 X Y (.agg #[strV a, strV b]) (.agg #[strV c, strV d])) w K := by
  refine .of ?_ h
  have hg : Tryz.prog.eqGuardType Tryz.prog.depth 118 = false := by kernel_rfl
  show (do eqGuard .eql 118 X Y (.agg #[strV a, strV b]) (.agg #[strV c, strV d]); binOp .eql 118 (.agg #[strV a, strV b]) (.agg #[strV c, strV d]) : Sem Value).run Tryz.prog w = _
  simp only [Sem.run_bind, run_eqGuard_agg w .eql 118 X Y _ _ hg, Result.andThen, run_eql_struct, full_eqIn]
theorem w_neFull {K : Value → Prop} {X Y : Operand} {a b c d : Txt} {w : World} (h : K (.bool (!decide (a = c ∧ b = d)))) : RunW Tryz.prog (bin .neq 118 X Y (.agg #[strV a, strV b]) (.agg #[strV c, strV d])) w K := by
  refine .of ?_ h
  have hg : Tryz.prog.eqGuardType Tryz.prog.depth 118 = false := by kernel_rfl
  show (do eqGuard .neq 118 X Y (.agg #[strV a, strV b]) (.agg #[strV c, strV d]); binOp .neq 118 (.agg #[strV a, strV b]) (.agg #[strV c, strV d]) : Sem Value).run Tryz.prog w = _
  simp only [Sem.run_bind, run_eqGuard_agg w .neq 118 X Y _ _ hg, Result.andThen, run_neq_struct, full_eqIn]
abbrev PrO (p : XPr) : Nat → As := Ob (.cells (prc p).toArray 154 (0, 0))
abbrev PrS (L : List XPr) : Value → As := Ow 154 3 L.length (rcells prc L)
section
variable {w0 W W' : World} {G : Nat → Prop} {l R R1 : List As} {RR : Value → World → Prop} {t s : Txt} {c : XC} {x : UInt8} {b g n : Nat} {r : XRd} {p q : XPr} {L : List XPr} {v : Value}
theorem same1_spec [i : Has l g (PrO p) R] (h : St w0 G l W) (k : ∀ W', St w0 G l W' → RR (.bool (decide (q.pre = p.pre ∧ q.name = p.name))) W') : CallF Tryz.prog 130 #[.agg (prc q).toArray, .pointer (some ⟨g, 0, none⟩)] W RR := by
  refine sh130_calls ?_
  unfold sh130
  refine h.boxS fun b W h => ?_
  refine a_fld0 (St.loadP (b := b) (o := 0) (all := prc q) (cs := [strV q.pre, strV q.name]) h (fun j u hj => ?_) ?_)
  · rw [Nat.zero_add]; match j, hj with
    | 0, hj => exact hj
    | 1, hj => exact hj
  refine a_fld0 (St.loadP (b := g) (o := 0) (t := 154) (all := prc p) (cs := [strV p.pre, strV p.name]) h (fun j u hj => ?_) ?_)
  · rw [Nat.zero_add]; match j, hj with
    | 0, hj => exact hj
    | 1, hj => exact hj
  exact w_eqFull (k _ h.tail)
theorem contains_spec [i : Has l g (PrO p) R] [j : Has l v (PrS L) R1] (h : St w0 G l W) (hL : L.length ≤ 1000000) (k : ∀ W', St w0 G l W' → RR (.bool (L.any fun q => decide (q.pre = p.pre ∧ q.name = p.name))) W') : CallF Tryz.prog 129 #[v, .func (.func 130) #[] #[.pointer (some ⟨g, 0, none⟩)]] W RR := by
  refine sh129_calls ?_
  unfold sh129
  refine sh154_calls ?_
  unfold sh154
  refine x_lenS (h.osl (v := v)) ?_
  refine lpx (α := Nat) (fun i => [nV .i64 i]) (fun i W' => i ≤ L.length ∧ (L.any fun q => decide (q.pre = p.pre ∧ q.name = p.name)) = ((L.drop i).any fun q => decide (q.pre = p.pre ∧ q.name = p.name)) ∧ St w0 G l W') (fun i => L.length - i) 0 (fun _ => rfl) rfl ⟨Nat.zero_le _, rfl, h⟩ ?_
  clear h
  rintro next i W1 hnext ⟨h1, h2, h⟩
  refine app1 ?_
  refine a_lss (ifd (fun hc => ?_) fun hc => ?_)
  · have hi : i < L.length := by omega
    have ga : L[i]? = some L[i] := List.getElem?_eq_getElem hi
    rw [List.drop_eq_getElem_cons hi, List.any_cons] at h2
    generalize L[i] = q at ga h2
    refine x_rcl prc_len (h.osl (v := v)) rfl ga ?_
    refine callV_cl (hent _ (by kernel_rfl)) ?_
    refine same1_spec (p := p) (q := q) h fun W h => ?_
    refine ifd (fun hy => ?_) fun hy => ?_
    · refine a_geq ?_
      rw [h2, decide_eq_true hy, Bool.true_or] at k
      rw [decide_eq_true (by omega)]
      exact k W h
    · rw [decide_eq_false hy, Bool.false_or] at h2
      refine a_add64 (by omega) (by omega) ⟨rfl, rfl, rfl, ?_⟩
      rw [show ((i : Int) + 1) = ((i + 1 : Nat) : Int) by push_cast; rfl]
      exact hnext (i + 1) W (by omega) ⟨by omega, h2, h⟩
  · have hi : i = L.length := by omega
    rw [hi, List.drop_length, List.any_nil] at h2
    rw [h2] at k
    refine a_geq ?_
    exact k W1 h
/-- attr -/
theorem attr_spec (hT : XTabs w0) [i : Has l b (Xo r c) R1] [j : Has R1 v (PrS L) R] (h : St w0 G0 l W) (hle : r.at_ ≤ r.s.length) (hs : r.s.length ≤ 30000) (hL : L.length ≤ 1000000) (k : ∀ W', St w0 G0 (Ky b (Xo (XRd.attr decX signS L r).2 c) :: Ky v (PrS L) :: R) W' → RR (.agg (prc (XRd.attr decX signS L r).1).toArray) W') : CallF Tryz.prog 107 #[.pointer (some ⟨b, 0, none⟩), v] W RR := by
  refine sh107_calls ?_
  unfold sh107
  replace h : St w0 G0 (Ky b (Xo r c) :: Ky v (PrS L) :: R) W := h.to
  unfold XRd.attr at k
  dsimp only at k
  have hst := XRd.stp_full hle
  refine h.allocS fun g4 W h => ?_
  refine full_spec (r := r) (c := c) h hle (by omega) fun W h => ?_
  have hfl := XRd.full_le hle
  generalize r.full = F at *
  obtain ⟨⟨f1, f2⟩, q⟩ := F
  simp only at *
  refine x_bld (cells := [strV f1, strV f2, strV []].toArray) rfl ?_
  refine h.allocS fun g5 W h => ?_
  refine h.storeS (cs' := prc ⟨f1, f2, []⟩) fun W h => ?_
  have hfi := XRd.stp_failIf (r := q) (b := decide (q.e = 0) && L.any fun p => decide (p.pre = f1 ∧ p.name = f2)) (c := 4) (by decide) hst.ok
  generalize hF : q.failIf (decide (q.e = 0) && L.any fun p => decide (p.pre = f1 ∧ p.name = f2)) 4 = F at *
  have hFs : F.s.length = r.s.length := by rw [hfi.s, hst.s]
  refine jni (fun vs W' => vs = [.pointer (some ⟨b, 0, none⟩), .pointer (some ⟨g4, 0, none⟩), .pointer (some ⟨g5, 0, none⟩)] ∧ St w0 G0 (Ky b (Xo F c) :: Ky g5 (PrO ⟨f1, f2, []⟩) :: Ky g4 (Ob (.cells [strV [], strV [], strV []].toArray 154 (0, 0))) :: Ky v (PrS L) :: R) W') ?_ ?_
  · rintro vs W _ ⟨rfl, h⟩
    refine app3 ?_
    refine blanks_spec (r := F) (c := c) h hfi.ok (by omega) fun W h => ?_
    have h2 := XRd.stp_blanks hfi.ok
    have h2l : F.blanks.2.s.length = r.s.length := by rw [h2.s, hFs]
    refine wants_spec (p := [61]) (r := F.blanks.2) (c := c) h h2.ok (by omega) (by decide) fun W h => ?_
    have h3 := XRd.stp_wants (p := [61]) h2.ok
    have h3l : (XRd.wants [61] F.blanks.2).s.length = r.s.length := by rw [h3.s, h2l]
    refine blanks_spec (r := XRd.wants [61] F.blanks.2) (c := c) h h3.ok (by omega) fun W h => ?_
    have h4 := XRd.stp_blanks h3.ok
    have h4l : (XRd.wants [61] F.blanks.2).blanks.2.s.length = r.s.length := by rw [h4.s, h3l]
    generalize (XRd.wants [61] F.blanks.2).blanks.2 = z at *
    refine jni (fun vs W' => ∃ (x : XPr) (z' : XRd), vs = [.pointer (some ⟨g4, 0, none⟩), .pointer (some ⟨g5, 0, none⟩)] ∧ (if z.e = 0 then ((⟨f1, f2, (XRd.value decX signS z).1⟩ : XPr), (XRd.value decX signS z).2) else (⟨f1, f2, []⟩, z)) = (x, z') ∧ St w0 G0 (Ky b (Xo z' c) :: Ky g5 (PrO x) :: Ky g4 (Ob (.cells [strV [], strV [], strV []].toArray 154 (0, 0))) :: Ky v (PrS L) :: R) W') ?_ ?_
    · rintro vs W _ ⟨x, z', rfl, he, h⟩
      rw [he] at k
      refine app2 ?_
      refine St.loadP (b := g5) (o := 0) (t := 154) (all := prc x) (cs := prc x) h (fun j u hj => by rw [Nat.zero_add]; exact hj) ?_
      refine h.storeS (cs' := prc x) fun W h => ?_
      refine St.loadP (b := g4) (o := 0) (t := 154) (all := prc x) (cs := prc x) h (fun j u hj => by rw [Nat.zero_add]; exact hj) ?_
      exact k _ h.to
    · refine a_nil (a_fld0 (h.load ?_))
      refine w_eql (ifd (fun he => ?_) fun he => ?_)
      · rw [if_pos he]
        refine value_spec hT (r := z) (c := c) h (h4.ok.le he) (by omega) fun W h => ?_
        refine a_fld0 ?_
        replace h : St w0 G0 (Ky b (Xo (XRd.value decX signS z).2 c) :: Ky g5 (Ob (.cells [strV f1, strV f2, strV []].toArray 154 (0, 0))) :: Ky g4 (Ob (.cells [strV [], strV [], strV []].toArray 154 (0, 0))) :: Ky v (PrS L) :: R) W := h
        refine h.store fun W h => ?_
        refine ⟨⟨f1, f2, (XRd.value decX signS z).1⟩, (XRd.value decX signS z).2, rfl, rfl, ?_⟩
        replace h : St w0 G0 (Ky g5 (PrO ⟨f1, f2, (XRd.value decX signS z).1⟩) :: Ky b (Xo (XRd.value decX signS z).2 c) :: Ky g4 (Ob (.cells [strV [], strV [], strV []].toArray 154 (0, 0))) :: Ky v (PrS L) :: R) W := h
        exact h.to
      · rw [if_neg he]
        exact ⟨⟨f1, f2, []⟩, z, rfl, rfl, h⟩
  · replace h : St w0 G0 (Ky g5 (PrO ⟨f1, f2, []⟩) :: Ky b (Xo q c) :: Ky g4 (Ob (.cells [strV [], strV [], strV []].toArray 154 (0, 0))) :: Ky v (PrS L) :: R) W := h.to
    refine a_nil (a_fld0 (h.load ?_))
    refine w_eql (ifd (fun he => ?_) fun he => ?_)
    · refine v_func ?_
      refine contains_spec (p := ⟨f1, f2, []⟩) (L := L) (v := v) h hL fun W h => ifb (fun hc => ?_) fun hc => ?_
      · refine fail_spec (r := q) (c := c) h fun W h => ⟨rfl, ?_⟩
        rw [← hF, show (L.any fun p => decide (p.pre = f1 ∧ p.name = f2)) = true from hc, decide_eq_true he]
        exact h
      · refine ⟨rfl, ?_⟩
        rw [← hF, show (L.any fun p => decide (p.pre = f1 ∧ p.name = f2)) = false from hc, Bool.and_false, show q.failIf false 4 = q from rfl]
        exact h.to
    · refine ⟨rfl, ?_⟩
      rw [← hF, decide_eq_false he, Bool.false_and, show q.failIf false 4 = q from rfl]
      exact h.to
/-- attrs -/
theorem attrs_spec (hT : XTabs w0) [i : Has l b (Xo r c) R] (h : St w0 G0 l W) (hok : r.Ok) (hs : r.s.length ≤ 30000) (k : ∀ v W', Cel1 v → St w0 G0 (Ky v (PrS (XRd.attrs decX signS r).1) :: Ky b (Xo (XRd.attrs decX signS r).2 c) :: R) W' → RR v W') : CallF Tryz.prog 76 #[.pointer (some ⟨b, 0, none⟩)] W RR := by
  refine sh76_calls ?_
  unfold sh76
  replace h := h.find (k := b) (X := Xo r c)
  unfold XRd.attrs at k
  generalize hQ : XRd.attrsGo decX signS (r.s.length + 3) [] r = Q at k
  have hlt := hok.lt
  refine lpx (α := Nat × List XPr × Value × XRd) (fun A => [A.2.2.1]) (fun A W' => A.2.2.2.Ok ∧ A.2.2.2.s = r.s ∧ A.1 + A.2.1.length ≤ r.s.length + 3 ∧ (A.2.2.2.e = 0 → r.s.length < A.1 + A.2.2.2.at_) ∧ XRd.attrsGo decX signS A.1 A.2.1 A.2.2.2 = Q ∧ Cel1 A.2.2.1 ∧ St w0 G0 (Ky A.2.2.1 (PrS A.2.1) :: Ky b (Xo A.2.2.2 c) :: R) W') (fun A => A.1) (r.s.length + 3, [], .slice none 0 0, r) (fun _ => rfl) rfl
    ⟨hok, rfl, by simp, fun _ => by simp only; omega, hQ, ⟨rfl⟩, h.nilOw⟩ ?_
  clear h
  rintro next ⟨f, L, v, z⟩ W1 hnext ⟨h1, h2, h3, h4, h5, o, h⟩
  simp only at h1 h2 h3 h4 h5 o h
  refine app1 ?_
  have hsl : z.s.length = r.s.length := by rw [h2]
  refine a_nil (a_fld0 (h.load ?_))
  refine w_eql (ifd (fun he => ?_) fun he => ?_)
  · have h4' := h4 he
    have hzl := h1.le he
    obtain ⟨f, rfl⟩ : ∃ g, f = g + 1 := ⟨f - 1, by omega⟩
    unfold XRd.attrsGo at h5
    rw [if_neg (fun hn => hn he)] at h5
    dsimp only at h5
    have hzb := XRd.stp_blanks h1
    have hbl : z.blanks.2.s.length = r.s.length := by rw [hzb.s, hsl]
    refine blanks_spec (r := z) (c := c) h h1 (by omega) fun W h => ?_
    have hzs := hzb.trans (XRd.stp_see (n := 0) hzb.ok)
    refine see_spec (n := 0) (r := z.blanks.2) (c := c) h hzb.ok (by omega) (by decide) fun W h => ?_
    have out : ((z.blanks.2.see 0).2.e ≠ 0 ∨ (z.blanks.2.see 0).1 = 47 ∨ (z.blanks.2.see 0).1 = 62) → ∀ W, St w0 G0 (Ky b (Xo (z.blanks.2.see 0).2 c) :: Ky v (PrS L) :: R) W → RR v W := fun hx W h => by
      rw [if_pos hx] at h5
      rw [← h5] at k
      exact k v W o h.to
    refine a_nil (a_fld0 (h.load ?_))
    refine w_neq (ifd (fun hx => out (.inl hx) _ h) fun hx => ?_)
    refine w_eqC 47 rfl (ifd (fun h47 => out (.inr (.inl h47)) _ h) fun h47 => ?_)
    refine w_eqC 62 rfl (ifd (fun h62 => out (.inr (.inr h62)) _ h) fun h62 => ?_)
    rw [if_neg (by rintro (a | a | a); exact hx a; exact h47 a; exact h62 a)] at h5
    have hx0 := Classical.not_not.1 hx
    have hxl := hzs.ok.le hx0
    have hxs : (z.blanks.2.see 0).2.s.length = r.s.length := by rw [hzs.s, hsl]
    refine jni (fun vs W' => ∃ (L' : List XPr) (v' : Value) (z' : XRd), vs = [.pointer (some ⟨b, 0, none⟩), v'] ∧ z'.Ok ∧ z'.s = r.s ∧ f + L'.length ≤ r.s.length + 3 ∧ (z'.e = 0 → r.s.length < f + z'.at_) ∧ XRd.attrsGo decX signS f L' z' = Q ∧ Cel1 v' ∧ St w0 G0 (Ky v' (PrS L') :: Ky b (Xo z' c) :: R) W') ?_ ?_
    · rintro vs W _ ⟨L', v', z', rfl, g1, g2, g3, g4, g5, o', h⟩
      refine app2 ⟨rfl, ?_⟩
      exact hnext (f, L', v', z') W (by simp only; omega) ⟨g1, g2, g3, g4, g5, o', h⟩
    · refine a_not (ifnb (fun hb => ?_) fun hb => ?_)
      · rw [if_pos hb] at h5
        refine fail_spec (r := (z.blanks.2.see 0).2) (c := c) h fun W h => ?_
        exact ⟨L, v, _, rfl, (XRd.stp_fail (by decide) hzs.ok.lt).ok, XRd.fail_s.trans (hzs.s.trans h2), by omega, fun h0 => absurd h0 (XRd.fail_ne (by decide)), h5, o, h.to⟩
      · rw [if_neg (by rw [hb]; decide)] at h5
        refine attr_spec hT (r := (z.blanks.2.see 0).2) (c := c) (L := L) (v := v) h hxl (by omega) (by omega) fun W h => ?_
        obtain ⟨g1, g2⟩ := XRd.stp_attr (sgn := signS) (l := L) decX_ok hxl
        have hup := hzs.up
        generalize XRd.attr decX signS L (z.blanks.2.see 0).2 = A at *
        obtain ⟨p, y⟩ := A
        simp only at *
        refine h.lit fun u W ou h => ?_
        refine h.app (v := v) (h.osl (v := u)) (by intro a ha; simp only [List.mem_cons, List.not_mem_nil, or_false] at ha; rcases ha with rfl | rfl | rfl <;> rfl) (by unfold maxLen; omega) (by omega) fun v' W o' h _ => ?_
        rw [show rcells prc L ++ [strV p.pre, strV p.name, strV p.value] = rcells prc (L ++ [p]) by rw [rc_append, rc_single], show L.length + 1 = (L ++ [p]).length by simp] at h
        refine ⟨L ++ [p], v', y, rfl, g1.ok, g1.s.trans (hzs.s.trans h2), by rw [List.length_append, List.length_singleton]; omega, fun h0 => ?_, h5, o', h.to⟩
        have := g2 h0
        omega
  · have : Q = (L, z) := by
      rw [← h5]
      cases f
      · rfl
      · unfold XRd.attrsGo; rw [if_pos he]
    rw [this] at k
    exact k v W1 o h
end
end Go.Proofs.YtlflpbflpcmckaaGreatDoor
namespace Go.Proofs.YtlflpbflpcmckaaGreatDoor
open Go Go.Ez Go.RowKit Go.Lib
set_option linter.unusedSimpArgs false
set_option linter.unusedVariables false
section
variable {w0 W W' : World} {G : Nat → Prop} {l R R1 : List As} {RR : Value → World → Prop} {t s : Txt} {c : XC} {x : UInt8} {b g n f : Nat} {r : XRd}
theorem comment_spec (hT : XTabs w0) [i : Has l b (Xo r c) R] (h : St w0 G0 l W) (hok : r.Ok) (hs : r.s.length ≤ 1000000) (k : ∀ W', St w0 G0 (Ky b (Xo (XRd.comment decX r) c) :: R) W' → RR (.tuple #[]) W') : CallF Tryz.prog 81 #[.pointer (some ⟨b, 0, none⟩)] W RR := by
  refine sh81_calls ?_
  unfold sh81
  unfold XRd.comment at k
  have h1 := XRd.stp_wants (p := [60, 33, 45, 45]) hok
  have h2 := h1.trans (XRd.stp_til (p := [45, 45]) decX_ok h1.ok)
  refine wants_spec (p := [60, 33, 45, 45]) (r := r) (c := c) h hok hs (by decide) fun W h => ?_
  refine til_spec hT (p := [45, 45]) (r := _) (c := c) h h1.ok (by rw [h1.s]; exact hs) (by decide) fun W h => ?_
  exact wants_spec (p := [62]) (r := _) (c := c) h h2.ok (by rw [h2.s]; exact hs) (by decide) fun W h => k W h
theorem misc_spec (hT : XTabs w0) [i : Has l b (Xo r c) R] (h : St w0 G0 l W) (hok : r.Ok) (hs : r.s.length ≤ 1000000) (hf : r.s.length < f) (k : ∀ W', St w0 G0 (Ky b (Xo (XRd.misc decX f r) c) :: R) W' → RR (.tuple #[]) W') : CallF Tryz.prog 45 #[.pointer (some ⟨b, 0, none⟩)] W RR := by
  refine sh45_calls ?_
  unfold sh45
  replace h := h.find (k := b) (X := Xo r c)
  generalize hQ : XRd.misc decX f r = Q at k
  refine lpx (α := Nat × XRd) (fun _ => []) (fun A W' => A.2.Ok ∧ A.2.s = r.s ∧ (A.2.e = 0 → r.s.length < A.1 + A.2.at_) ∧ XRd.misc decX A.1 A.2 = Q ∧ St w0 G0 (Ky b (Xo A.2 c) :: R) W') (fun A => A.1) (f, r) (fun _ => rfl) rfl ⟨hok, rfl, fun _ => by simp only; omega, hQ, h⟩ ?_
  clear h
  rintro next ⟨f, z⟩ W1 hnext ⟨h1, h2, h3, h4, h⟩
  simp only at h1 h2 h3 h4 h
  refine app0 ?_
  have hsl : z.s.length = r.s.length := by rw [h2]
  refine a_nil (a_fld0 (h.load ?_))
  refine w_eql (ifd (fun he => ?_) fun he => ?_)
  · have h3' := h3 he
    have hzl := h1.le he
    obtain ⟨f, rfl⟩ : ∃ g, f = g + 1 := ⟨f - 1, by omega⟩
    unfold XRd.misc at h4
    rw [if_neg (fun hn => hn he)] at h4
    have hzb := XRd.stp_blanks h1
    have hbl : z.blanks.2.s.length = r.s.length := by rw [hzb.s, hsl]
    have hbe : z.blanks.2.e = z.e := rfl
    refine blanks_spec (r := z) (c := c) h h1 (by omega) fun W h => ?_
    have hup := hzb.up
    have hok2 := hzb.ok
    have hs2 := hzb.s
    generalize z.blanks.2 = y at *
    have hyl := hok2.le (hbe.trans he)
    refine ⟨St w0 G0 _, h.drew, ?_⟩
    replace h := h.drew
    (repeat (first | (with_reducible refine ift ?_) | (with_reducible refine iff' ?_) | (with_reducible refine a_lss ?_) | (with_reducible refine a_leq ?_) | (with_reducible refine a_gtr ?_) | (with_reducible refine a_geq ?_) | (with_reducible refine w_eql ?_) | (with_reducible refine w_neq ?_) | (with_reducible refine s_eql ?_) | (with_reducible refine s_neq ?_) | ((with_reducible refine a_add64 ?h0 ?h1 ?_); (case h0 => omega); (case h1 => omega);  skip) | ((with_reducible refine a_sub64 ?h0 ?h1 ?_); (case h0 => omega); (case h1 => omega);  skip) | ((with_reducible refine a_mul64 ?h0 ?h1 ?_); (case h0 => omega); (case h1 => omega);  skip) | (with_reducible refine a_notd ?_) | (with_reducible refine a_not ?_) | (with_reducible refine a_ext0 ?_) | (with_reducible refine a_ext1 ?_) | (with_reducible refine a_ext2 ?_) | (with_reducible refine x_len ?_) | (with_reducible refine x_lens ?_) | (with_reducible refine x_eqb ?_) | (with_reducible refine x_neb ?_) | (with_reducible refine x_nilP ?_) | (with_reducible refine x_nilPn ?_) | (with_reducible refine x_nilF ?_) | (with_reducible refine x_nilFF ?_) | (with_reducible refine w_eqlL ?_) | (with_reducible refine w_neqL ?_) | (with_reducible refine s_eqlL ?_) | (with_reducible refine ifnt ?_) | (with_reducible refine ifnf ?_) | (with_reducible refine x_eqB ?_) | (with_reducible refine x_neB ?_) | (with_reducible refine x_lssL ?_) | (with_reducible refine x_gtrL ?_) | (with_reducible refine x_geqL ?_) | (with_reducible refine s_neqL ?_) | (with_reducible refine St.load h ?_) | (with_reducible refine St.loadS h ?_) | (with_reducible refine a_fld0 ?_) | (with_reducible refine St.store h fun W h => ?_) | (with_reducible refine St.storeS h fun W h => ?_) | (with_reducible refine St.alloc h fun b W h => ?_) | (with_reducible refine St.allocS h fun b W h => ?_) | (with_reducible refine a_nil ?_) | (with_reducible refine ss_load ?_) | (with_reducible refine ss_loadS ?_) | (with_reducible refine ss_eqb ?_)))
    refine ifd (fun hc => ?_) fun hc => ?_
    · have hr : y.rest = [] := XRd.rest_none (by omega)
      rw [if_pos (by rw [hr]; rfl)] at h4
      rw [h4] at h
      exact k _ h
    · (repeat (first | (with_reducible refine ift ?_) | (with_reducible refine iff' ?_) | (with_reducible refine a_lss ?_) | (with_reducible refine a_leq ?_) | (with_reducible refine a_gtr ?_) | (with_reducible refine a_geq ?_) | (with_reducible refine w_eql ?_) | (with_reducible refine w_neq ?_) | (with_reducible refine s_eql ?_) | (with_reducible refine s_neq ?_) | ((with_reducible refine a_add64 ?h0 ?h1 ?_); (case h0 => omega); (case h1 => omega);  skip) | ((with_reducible refine a_sub64 ?h0 ?h1 ?_); (case h0 => omega); (case h1 => omega);  skip) | ((with_reducible refine a_mul64 ?h0 ?h1 ?_); (case h0 => omega); (case h1 => omega);  skip) | (with_reducible refine a_notd ?_) | (with_reducible refine a_not ?_) | (with_reducible refine a_ext0 ?_) | (with_reducible refine a_ext1 ?_) | (with_reducible refine a_ext2 ?_) | (with_reducible refine x_len ?_) | (with_reducible refine x_lens ?_) | (with_reducible refine x_eqb ?_) | (with_reducible refine x_neb ?_) | (with_reducible refine x_nilP ?_) | (with_reducible refine x_nilPn ?_) | (with_reducible refine x_nilF ?_) | (with_reducible refine x_nilFF ?_) | (with_reducible refine w_eqlL ?_) | (with_reducible refine w_neqL ?_) | (with_reducible refine s_eqlL ?_) | (with_reducible refine ifnt ?_) | (with_reducible refine ifnf ?_) | (with_reducible refine x_eqB ?_) | (with_reducible refine x_neB ?_) | (with_reducible refine x_lssL ?_) | (with_reducible refine x_gtrL ?_) | (with_reducible refine x_geqL ?_) | (with_reducible refine s_neqL ?_) | (with_reducible refine St.load h ?_) | (with_reducible refine St.loadS h ?_) | (with_reducible refine a_fld0 ?_) | (with_reducible refine St.store h fun W h => ?_) | (with_reducible refine St.storeS h fun W h => ?_) | (with_reducible refine St.alloc h fun b W h => ?_) | (with_reducible refine St.allocS h fun b W h => ?_) | (with_reducible refine a_nil ?_) | (with_reducible refine ss_load ?_) | (with_reducible refine ss_loadS ?_) | (with_reducible refine ss_eqb ?_)))
      refine x_cutL (by omega) ?_
      refine pre_spec (p := [60, 33]) (s := y.rest) ⟨h, a_not (ifnb (fun hp => ?_) fun hp => ?_)⟩
      · rw [if_pos hp] at h4
        rw [h4] at h
        exact k _ h
      · rw [if_neg (by rw [hp]; decide)] at h4
        have g1 := XRd.stp_comment decX_ok hok2
        have g2 := XRd.adv_comment decX_ok hok2
        refine comment_spec hT (r := y) (c := c) h hok2 (by omega) fun W h => ⟨rfl, ?_⟩
        exact hnext (f, XRd.comment decX y) W (by simp) ⟨g1.ok, g1.s.trans (hs2.trans h2), fun h0 => by have := g2 h0; simp only; omega, h4, h⟩
  · have : Q = z := by
      rw [← h4]
      cases f
      · rfl
      · unfold XRd.misc; rw [if_pos he]
    subst this
    exact k W1 h
theorem front_spec (hT : XTabs w0) [i : Has l b (Xo r c) R] (h : St w0 G0 l W) (hle : r.at_ ≤ r.s.length) (hs : r.s.length ≤ 1000000) (k : ∀ W', St w0 G0 (Ky b (Xo (XRd.front decX r) c) :: R) W' → RR (.tuple #[]) W') : CallF Tryz.prog 39 #[.pointer (some ⟨b, 0, none⟩)] W RR := by
  refine sh39_calls ?_
  unfold sh39
  replace h := h.find (k := b) (X := Xo r c)
  unfold XRd.front at k
  dsimp only at k
  generalize hq : (if XRd.isPre [239, 187, 191] r.rest = true then r.on 3 else r) = q at k
  have hq1 : q.s = r.s ∧ q.at_ ≤ q.s.length := by
    rw [← hq]
    split
    · rename_i hp
      have := XRd.isPre_len hp
      rw [XRd.rest_len] at this
      have h1 : ([239, 187, 191] : Txt).length = 3 := rfl
      exact ⟨rfl, by show r.at_ + 3 ≤ r.s.length; omega⟩
    · exact ⟨rfl, hle⟩
  have hql : q.s.length = r.s.length := by rw [hq1.1]
  have hq2 := hq1.2
  refine jni (fun vs W' => vs = [.pointer (some ⟨b, 0, none⟩)] ∧ St w0 G0 (Ky b (Xo q c) :: R) W') ?_ ?_
  · rintro vs W _ ⟨rfl, h⟩
    refine app1 ?_
    generalize hz : (if XRd.isPre [60, 63] q.rest = true then (XRd.til decX [63, 62] (if ((XRd.wants [60, 63, 120, 109, 108] q).see 0).2.e = 0 then ((XRd.wants [60, 63, 120, 109, 108] q).see 0).2.blanks.2.failIf (!((XRd.wants [60, 63, 120, 109, 108] q).see 0).2.blanks.1) 4 else ((XRd.wants [60, 63, 120, 109, 108] q).see 0).2)).2 else q) = z at k
    refine jni (fun vs W' => vs = [.pointer (some ⟨b, 0, none⟩)] ∧ z.Ok ∧ z.s.length = r.s.length ∧ St w0 G0 (Ky b (Xo z c) :: R) W') ?_ ?_
    · rintro vs W _ ⟨rfl, g1, g2, h⟩
      refine app1 ?_
      exact misc_spec hT (r := z) (c := c) h g1 (by omega) (by omega) fun W h => k W h
    · refine ⟨St w0 G0 _, h.drew, ?_⟩
      replace h := h.drew
      (repeat (first | (with_reducible refine ift ?_) | (with_reducible refine iff' ?_) | (with_reducible refine a_lss ?_) | (with_reducible refine a_leq ?_) | (with_reducible refine a_gtr ?_) | (with_reducible refine a_geq ?_) | (with_reducible refine w_eql ?_) | (with_reducible refine w_neq ?_) | (with_reducible refine s_eql ?_) | (with_reducible refine s_neq ?_) | ((with_reducible refine a_add64 ?h0 ?h1 ?_); (case h0 => omega); (case h1 => omega);  skip) | ((with_reducible refine a_sub64 ?h0 ?h1 ?_); (case h0 => omega); (case h1 => omega);  skip) | ((with_reducible refine a_mul64 ?h0 ?h1 ?_); (case h0 => omega); (case h1 => omega);  skip) | (with_reducible refine a_notd ?_) | (with_reducible refine a_not ?_) | (with_reducible refine a_ext0 ?_) | (with_reducible refine a_ext1 ?_) | (with_reducible refine a_ext2 ?_) | (with_reducible refine x_len ?_) | (with_reducible refine x_lens ?_) | (with_reducible refine x_eqb ?_) | (with_reducible refine x_neb ?_) | (with_reducible refine x_nilP ?_) | (with_reducible refine x_nilPn ?_) | (with_reducible refine x_nilF ?_) | (with_reducible refine x_nilFF ?_) | (with_reducible refine w_eqlL ?_) | (with_reducible refine w_neqL ?_) | (with_reducible refine s_eqlL ?_) | (with_reducible refine ifnt ?_) | (with_reducible refine ifnf ?_) | (with_reducible refine x_eqB ?_) | (with_reducible refine x_neB ?_) | (with_reducible refine x_lssL ?_) | (with_reducible refine x_gtrL ?_) | (with_reducible refine x_geqL ?_) | (with_reducible refine s_neqL ?_) | (with_reducible refine St.load h ?_) | (with_reducible refine St.loadS h ?_) | (with_reducible refine a_fld0 ?_) | (with_reducible refine St.store h fun W h => ?_) | (with_reducible refine St.storeS h fun W h => ?_) | (with_reducible refine St.alloc h fun b W h => ?_) | (with_reducible refine St.allocS h fun b W h => ?_) | (with_reducible refine a_nil ?_) | (with_reducible refine ss_load ?_) | (with_reducible refine ss_loadS ?_) | (with_reducible refine ss_eqb ?_)))
      refine x_cutL (by omega) ?_
      refine pre_spec (p := [60, 63]) (s := q.rest) (ifb (fun hp => ?_) fun hp => ?_)
      · rw [if_pos hp] at hz
        have h1 := XRd.stp_wants (p := [60, 63, 120, 109, 108]) (XRd.Ok.of_le hq2)
        have h2 := h1.trans (XRd.stp_see (n := 0) h1.ok)
        refine wants_spec (p := [60, 63, 120, 109, 108]) (r := q) (c := c) h (.of_le hq2) (by omega) (by decide) fun W h => ?_
        refine see_spec (n := 0) (r := _) (c := c) h h1.ok (by rw [h1.s]; omega) (by decide) fun W h => ?_
        generalize ((XRd.wants [60, 63, 120, 109, 108] q).see 0).2 = y at *
        generalize hY : (if y.e = 0 then y.blanks.2.failIf (!y.blanks.1) 4 else y) = Y at hz
        have h3 := h2.trans (XRd.stp_blanks h2.ok)
        have h4 := h3.trans (XRd.stp_failIf (b := !y.blanks.1) (c := 4) (by decide) h3.ok)
        have hYs : XRd.Stp q Y := by
          rw [← hY]
          split
          · exact h4
          · exact h2
        have h5 := hYs.trans (XRd.stp_til (p := [63, 62]) decX_ok hYs.ok)
        refine jni (fun vs W' => vs = [.pointer (some ⟨b, 0, none⟩)] ∧ St w0 G0 (Ky b (Xo Y c) :: R) W') ?_ ?_
        · rintro vs W _ ⟨rfl, h⟩
          refine app1 ?_
          refine til_spec hT (p := [63, 62]) (r := Y) (c := c) h hYs.ok (by rw [hYs.s]; omega) (by decide) fun W h => ?_
          rw [hz] at h h5
          exact ⟨rfl, h5.ok, by rw [h5.s]; exact hql, h⟩
        · refine a_nil (a_fld0 (h.load ?_))
          refine w_eql (ifd (fun he => ?_) fun he => ?_)
          · rw [if_pos he] at hY
            refine blanks_spec (r := y) (c := c) h h2.ok (by rw [h2.s]; omega) fun W h => ?_
            refine a_not (ifnb (fun hb => ?_) fun hb => ?_)
            · refine fail_spec (r := y.blanks.2) (c := c) h fun W h => ⟨rfl, ?_⟩
              rw [hb] at hY
              rw [← hY]; exact h
            · refine ⟨rfl, ?_⟩
              rw [hb] at hY
              rw [← hY]; exact h
          · rw [if_neg he] at hY
            rw [← hY]
            exact ⟨rfl, h⟩
      · rw [if_neg (by rw [hp]; decide)] at hz
        subst hz
        exact ⟨rfl, .of_le hq2, hql, h⟩
  · refine ⟨St w0 G0 _, h.drew, ?_⟩
    replace h := h.drew
    (repeat (first | (with_reducible refine ift ?_) | (with_reducible refine iff' ?_) | (with_reducible refine a_lss ?_) | (with_reducible refine a_leq ?_) | (with_reducible refine a_gtr ?_) | (with_reducible refine a_geq ?_) | (with_reducible refine w_eql ?_) | (with_reducible refine w_neq ?_) | (with_reducible refine s_eql ?_) | (with_reducible refine s_neq ?_) | ((with_reducible refine a_add64 ?h0 ?h1 ?_); (case h0 => omega); (case h1 => omega);  skip) | ((with_reducible refine a_sub64 ?h0 ?h1 ?_); (case h0 => omega); (case h1 => omega);  skip) | ((with_reducible refine a_mul64 ?h0 ?h1 ?_); (case h0 => omega); (case h1 => omega);  skip) | (with_reducible refine a_notd ?_) | (with_reducible refine a_not ?_) | (with_reducible refine a_ext0 ?_) | (with_reducible refine a_ext1 ?_) | (with_reducible refine a_ext2 ?_) | (with_reducible refine x_len ?_) | (with_reducible refine x_lens ?_) | (with_reducible refine x_eqb ?_) | (with_reducible refine x_neb ?_) | (with_reducible refine x_nilP ?_) | (with_reducible refine x_nilPn ?_) | (with_reducible refine x_nilF ?_) | (with_reducible refine x_nilFF ?_) | (with_reducible refine w_eqlL ?_) | (with_reducible refine w_neqL ?_) | (with_reducible refine s_eqlL ?_) | (with_reducible refine ifnt ?_) | (with_reducible refine ifnf ?_) | (with_reducible refine x_eqB ?_) | (with_reducible refine x_neB ?_) | (with_reducible refine x_lssL ?_) | (with_reducible refine x_gtrL ?_) | (with_reducible refine x_geqL ?_) | (with_reducible refine s_neqL ?_) | (with_reducible refine St.load h ?_) | (with_reducible refine St.loadS h ?_) | (with_reducible refine a_fld0 ?_) | (with_reducible refine St.store h fun W h => ?_) | (with_reducible refine St.storeS h fun W h => ?_) | (with_reducible refine St.alloc h fun b W h => ?_) | (with_reducible refine St.allocS h fun b W h => ?_) | (with_reducible refine a_nil ?_) | (with_reducible refine ss_load ?_) | (with_reducible refine ss_loadS ?_) | (with_reducible refine ss_eqb ?_)))
    refine x_cutL (by omega) ?_
    refine pre_spec (p := [239, 187, 191]) (s := r.rest) (ifb (fun hp => ?_) fun hp => ?_)
    · rw [if_pos hp] at hq
      rw [← hq]
      refine a_nil (a_fld0 (h.load ?_))
      refine a_add64 (by omega) (by omega) ?_
      refine a_nil (a_fld0 (h.store fun W h => ?_))
      exact ⟨rfl, h⟩
    · rw [if_neg (by rw [hp]; decide)] at hq
      rw [← hq]
      exact ⟨rfl, h⟩
end
end Go.Proofs.YtlflpbflpcmckaaGreatDoor
namespace Go.Ez.XRd
open Go Go.Ez
set_option linter.unusedSimpArgs false
set_option linter.unusedVariables false
variable {r r' r'' : XRd} {n : Nat} {p : Txt} {dec : Txt → Int × Nat} {sgn : Int → Txt × Bool}
/-- what a prefix stands for -/
def spaceV (f : XFr) (pre : Txt) (op : List XFr) : Option Txt :=
  if pre = own then some own else match lookS pre f.spaces with
  | some s => some s
  | none => match near pre op.reverse with
    | some s => some s
    | none => if pre ≠ [] then none else some []
theorem space_eq (f : XFr) (pre : Txt) (r : XRd) : space f pre r = match spaceV f pre r.op with | some s => (s, r) | none => ([], r.fail 4) := by
  unfold space spaceV
  by_cases h1 : pre = own
  · rw [if_pos h1, if_pos h1]
  · rw [if_neg h1, if_neg h1]
    generalize lookS pre f.spaces = a
    generalize near pre r.op.reverse = b
    cases a with
    | some s => rfl
    | none =>
      cases b with
      | some s => rfl
      | none => by_cases h : pre = [] <;> simp [h, failIf]
theorem space_ok {f : XFr} {pre : Txt} (h : (space f pre r).2.e = 0) : ∃ s, spaceV f pre r.op = some s ∧ space f pre r = (s, r) := by
  rw [space_eq] at h ⊢
  cases hx : spaceV f pre r.op with
  | some s => exact ⟨s, rfl, rfl⟩
  | none => rw [hx] at h; exact absurd h (fail_ne (by decide))
theorem stp_space {f : XFr} {pre : Txt} (h : Ok r) : Stp r (space f pre r).2 := by
  rw [space_eq]
  split
  · exact Stp.refl h
  · exact stp_fail (by decide) h.lt
theorem spaceV_self (f : XFr) (op : List XFr) : spaceV f f.pre (op ++ [f]) = spaceV f f.pre op := by
  unfold spaceV
  split
  · rfl
  · split
    · rfl
    · rename_i h
      rw [List.reverse_append, List.reverse_singleton, List.singleton_append]
      conv => lhs; unfold near
      rw [h]
theorem stp_attsOf {f : XFr} : ∀ {l : List XPr} {o : List XAt} {r : XRd}, Ok r → Stp r (attsOf f l o r).2
  | [], o, r, h => Stp.refl h
  | p :: l, o, r, h => by
    unfold attsOf
    split
    · exact stp_attsOf h
    · split
      · have h1 := stp_space (f := f) (pre := p.pre) h
        exact h1.trans (stp_attsOf h1.ok)
      · exact stp_attsOf h
/-- a token behind others -/
def lim (st : List XTk) : Option (List XTk) := if 64 < st.length then none else some st
def chkStep (done st : List XTk) (t : XTk) : Option (List XTk) :=
  if t.kind = 1 then (if (st = [] ∧ done ≠ []) ∨ t.name = [] then none else lim (st ++ [t]))
  else if t.kind = 2 then (match st.getLast? with | none => none | some u => if u.name ≠ t.name ∨ u.space ≠ t.space then none else lim st.dropLast)
  else if t.kind = 3 then (if st = [] ∨ t.text = [] ∨ 8000 < t.text.length ∨ done.getLast?.map XTk.kind = some 3 then none else lim st)
  else none
def chk : List XTk → List XTk → List XTk → Option (List XTk)
  | [], _, st => some st
  | t :: l, done, st => match chkStep done st t with
    | none => none
    | some st => chk l (done ++ [t]) st
theorem chk_snoc : ∀ {l done st : List XTk} {t : XTk}, chk (l ++ [t]) done st = (chk l done st).bind fun st => chkStep (done ++ l) st t
  | [], done, st, t => by
    rw [List.nil_append, List.append_nil]
    show (match chkStep done st t with | none => none | some st => chk [] (done ++ [t]) st) = chkStep done st t
    cases chkStep done st t <;> rfl
  | u :: l, done, st, t => by
    rw [List.cons_append]
    unfold chk
    cases h : chkStep done st u with
    | none => rfl
    | some st' =>
      simp only
      rw [chk_snoc, List.append_assoc, List.singleton_append]
/-- the open tokens are the open elements -/
structure Mt (st : List XTk) (op : List XFr) : Prop where
  len : st.length = op.length
  at_ : ∀ i t f, st[i]? = some t → op[i]? = some f → t.name = f.name ∧ spaceV f f.pre (op.take i) = some t.space
structure Tinv (r : XRd) (st : List XTk) : Prop where
  chk : chk r.out [] [] = some st
  mt : Mt st r.op
  low : st.length ≤ 64
theorem Mt.push {st : List XTk} {op : List XFr} {t : XTk} {f : XFr} (h : Mt st op) (hn : t.name = f.name) (hs : spaceV f f.pre op = some t.space) : Mt (st ++ [t]) (op ++ [f]) := by
  refine ⟨by simp [h.len], fun i u g hu hg => ?_⟩
  have hl := h.len
  by_cases hi : i < op.length
  · rw [List.getElem?_append_left (by omega)] at hu hg
    rw [List.take_append_of_le_length (by omega)]
    exact h.at_ i u g hu hg
  · have h1 := (List.getElem?_eq_some_iff.1 hg).1
    rw [List.length_append, List.length_singleton] at h1
    have hi' : i = op.length := by omega
    subst hi'
    rw [List.getElem?_append_right (by omega), hl, Nat.sub_self] at hu
    rw [List.getElem?_append_right (by omega), Nat.sub_self] at hg
    cases hu; cases hg
    rw [List.take_left]
    exact ⟨hn, hs⟩
theorem Mt.pop {st : List XTk} {op : List XFr} {f : XFr} (h : Mt st (op ++ [f])) : ∃ st' t, st = st' ++ [t] ∧ Mt st' op ∧ t.name = f.name ∧ spaceV f f.pre op = some t.space := by
  have hl := h.len
  rw [List.length_append, List.length_singleton] at hl
  have hne : st ≠ [] := fun e => by rw [e] at hl; simp at hl
  refine ⟨st.dropLast, st.getLast hne, (List.dropLast_concat_getLast hne).symm, ⟨by rw [List.length_dropLast]; omega, fun i u g hu hg => ?_⟩, ?_⟩
  · have h1 := (List.getElem?_eq_some_iff.1 hg).1
    have := h.at_ i u g (by rw [List.getElem?_dropLast] at hu; split at hu; exact hu; cases hu) (by rw [List.getElem?_append_left h1]; exact hg)
    rw [List.take_append_of_le_length (by omega)] at this
    exact this
  · have := h.at_ op.length (st.getLast hne) f (by rw [List.getLast_eq_getElem, List.getElem?_eq_getElem (by omega)]; simp [hl]) (by rw [List.getElem?_append_right (by omega), Nat.sub_self]; rfl)
    rw [List.take_left] at this
    exact this
/-- tokens behind which text may stand -/
def Fre (out : List XTk) : Prop := out.getLast?.map XTk.kind ≠ some 3
theorem name_ne (h : r.nameOf.2.e = 0) : r.nameOf.1 ≠ [] := by
  have h1 : ((r.see 0).2.failIf (decide ((r.see 0).2.e = 0) && !begs (r.see 0).1) 4).e = 0 := h
  obtain ⟨h2, h3⟩ := failIf_e (by decide) h1
  rw [h3] at h1
  obtain ⟨c, hc, hx⟩ := see_e h1
  rw [hx] at h2
  have hb : begs c = true := by
    rw [hx] at h1
    have h1' : r.e = 0 := h1
    simpa [h1'] using h2
  have hr : r.rest = c :: r.s.drop (r.at_ + 1) := by
    unfold rest
    rw [Nat.add_zero] at hc
    exact (List.drop_eq_getElem_cons (List.getElem?_eq_some_iff.1 hc).1).trans (by rw [(List.getElem?_eq_some_iff.1 hc).2])
  show r.rest.takeWhile goes ≠ []
  rw [hr, List.takeWhile_cons, show goes c = true by unfold goes; simp [hb]]
  simp
theorem full_ne (hl : r.at_ ≤ r.s.length) (h : r.full.2.e = 0) : r.full.1.2 ≠ [] := by
  unfold full at h ⊢
  dsimp only at h ⊢
  split
  · rename_i hc
    rw [if_pos hc] at h
    exact name_ne h
  · rename_i hc
    rw [if_neg hc] at h
    exact name_ne h
theorem begin_out {name : Txt × Txt} {l : List XPr} (hr : Ok r) (he : (begin_ name l r).2.e = 0) : ∃ s at', spaceV (begin_ name l r).1 name.1 r.op = some s ∧ (begin_ name l r).2 = { r with out := r.out ++ [⟨1, s, name.2, [], at'⟩], e := 0 } ∧ r.e = 0 ∧ (begin_ name l r).1.pre = name.1 ∧ (begin_ name l r).1.name = name.2 := by
  unfold begin_ at he ⊢
  dsimp only at he ⊢
  generalize hf : (⟨name.1, name.2, spacesOf l []⟩ : XFr) = f at *
  have h1 := stp_space (f := f) (pre := name.1) hr
  have h2 := stp_attsOf (f := f) (l := l) (o := []) h1.ok
  have h3 := h2.e0 he
  obtain ⟨s, hs, hx⟩ := space_ok h3
  rw [hx] at h2 ⊢
  rw [hx] at h3
  rw [hx] at he
  dsimp only at h2 h3 he ⊢
  refine ⟨s, (attsOf f l [] r).1, hs, ?_, h3, by first | rfl | rw [← hf], by first | rfl | rw [← hf]⟩
  have : (attsOf f l [] r).2 = { r with e := 0, at_ := (attsOf f l [] r).2.at_ } := by
    have e1 := h2.s; have e2 := h2.out; have e3 := h2.op; have e4 := h2.run
    generalize (attsOf f l [] r).2 = q at *
    cases q; cases r
    simp_all
  have hat : (attsOf f l [] r).2.at_ = r.at_ := by
    have : ∀ (l : List XPr) (o : List XAt) (r : XRd), (attsOf f l o r).2.at_ = r.at_ := by
      intro l
      induction l with
      | nil => intro o r; rfl
      | cons p l ih =>
        intro o r
        unfold attsOf
        split
        · exact ih _ _
        · split
          · rw [ih, space_eq]; split; rfl; exact fail_at
          · exact ih _ _
    exact this l [] r
  rw [this, hat]
theorem close_out {f : XFr} (he : (close f r).e = 0) : ∃ s, spaceV f f.pre r.op = some s ∧ close f r = { r with out := r.out ++ [⟨2, s, f.name, [], []⟩] } := by
  unfold close at he ⊢
  obtain ⟨s, hs, hx⟩ := space_ok (f := f) (pre := f.pre) (r := r) he
  refine ⟨s, hs, ?_⟩
  rw [hx]
theorem chk_open {st : List XTk} {t : XTk} {out : List XTk} (h : chk out [] [] = some st) (hk : t.kind = 1) (hn : t.name ≠ []) (h0 : out ≠ [] → st ≠ []) (hl : st.length < 64) : chk (out ++ [t]) [] [] = some (st ++ [t]) := by
  rw [chk_snoc, h]
  show chkStep ([] ++ out) st t = _
  unfold chkStep
  rw [if_pos hk, if_neg (by rintro (⟨a, b⟩ | a); exact h0 b a; exact hn a)]
  unfold lim
  rw [if_neg (by rw [List.length_append, List.length_singleton]; omega)]
theorem chk_close {st : List XTk} {t u : XTk} {out : List XTk} (h : chk out [] [] = some (st ++ [u])) (hk : t.kind = 2) (hn : u.name = t.name) (hs : u.space = t.space) (hl : st.length ≤ 64) : chk (out ++ [t]) [] [] = some st := by
  rw [chk_snoc, h]
  show chkStep ([] ++ out) (st ++ [u]) t = _
  unfold chkStep
  rw [if_neg (by rw [hk]; decide), if_pos hk, List.getLast?_concat]
  simp only
  rw [if_neg (by simp [hn, hs]), List.dropLast_concat]
  unfold lim
  rw [if_neg (by omega)]
theorem chk_text {st : List XTk} {t : XTk} {out : List XTk} (h : chk out [] [] = some st) (hk : t.kind = 3) (h0 : st ≠ []) (hn : t.text ≠ []) (hl : t.text.length ≤ 8000) (hf : Fre out) (hs : st.length ≤ 64) : chk (out ++ [t]) [] [] = some st := by
  rw [chk_snoc, h]
  show chkStep ([] ++ out) st t = _
  unfold chkStep
  rw [if_neg (by rw [hk]; decide), if_neg (by rw [hk]; decide), if_pos hk, List.nil_append, if_neg (by rintro (a | a | a | a); exact h0 a; exact hn a; omega; exact hf a)]
  unfold lim
  rw [if_neg (by omega)]
theorem fre_snoc {out : List XTk} {t : XTk} (h : t.kind ≠ 3) : Fre (out ++ [t]) := by
  unfold Fre
  rw [List.getLast?_concat]
  simpa using h
/-- flush -/
theorem flush_inv {st : List XTk} (h : Tinv r st) (hf : Fre r.out) (h0 : st ≠ []) (he : r.flush.e = 0) : Tinv r.flush st ∧ r.flush.op = r.op ∧ r.flush.s = r.s ∧ r.flush.at_ = r.at_ ∧ r.flush.run = [] ∧ r.flush.out ≠ [] := by
  have hout : r.out ≠ [] := fun e => h0 (by have := h.chk; rw [e] at this; unfold chk at this; cases this; rfl)
  unfold flush at he ⊢
  split
  · rename_i hc
    rw [if_pos hc] at he
    exact absurd he (fail_ne (by decide))
  · rename_i hc
    split
    · rename_i hr
      exact ⟨⟨chk_text h.chk rfl h0 hr (by show r.run.length ≤ 8000; omega) hf h.low, h.mt, h.low⟩, rfl, rfl, rfl, rfl, by simp⟩
    · exact ⟨⟨h.chk, h.mt, h.low⟩, rfl, rfl, rfl, rfl, hout⟩
theorem flush_e0 (he : r.flush.e = 0) : r.e = 0 := by
  unfold flush at he
  split at he
  · exact absurd he (fail_ne (by decide))
  · split at he <;> exact he
/-- what a step within an element, or an element, leaves -/
structure Fin (r r' : XRd) (st' : List XTk) : Prop where
  inv : Tinv r' st'
  fre : Fre r'.out
  s : r'.s = r.s
  more : r.out.length ≤ r'.out.length
  two : r'.op = [] → 2 ≤ r'.out.length
  e : r.e = 0
  ok : Ok r'
  adv : r.at_ < r'.at_
/-- an element's head: what is read ahead of its token -/
theorem element_eq (hd : DecOk dec) (hl : r.at_ + 1 ≤ r.s.length) (he : (element dec sgn r).e = 0) : ∃ (q : XRd) (n : Txt × Txt) (l : List XPr) (single : Bool), Stp r q ∧ q.e = 0 ∧ r.at_ < q.at_ ∧ n.2 ≠ [] ∧ r.op.length < 64 ∧
    element dec sgn r = if single then close (begin_ n l q).1 (begin_ n l q).2 else { (begin_ n l q).2 with op := (begin_ n l q).2.op ++ [(begin_ n l q).1] } := by
  unfold element at he ⊢
  dsimp only at he ⊢
  have hon := stp_on (r := r) (n := 1) hl
  have hup : r.at_ < (r.on 1).at_ := Nat.lt_succ_self _
  have hq : (r.on 1).at_ ≤ (r.on 1).s.length := hl
  have hop : (r.on 1).op = r.op := rfl
  generalize r.on 1 = q at *
  split
  · rename_i hc
    rw [if_pos hc] at he
    exact absurd he (fail_ne (by decide))
  rename_i hdeep
  rw [if_neg hdeep] at he
  have h1 := stp_full hq
  have h2 := stp_attrs (dec := dec) (sgn := sgn) hd h1.ok
  split
  · rename_i hc
    rw [if_pos hc] at he
    exact absurd he hc
  rename_i hc1
  rw [if_neg hc1] at he
  have h3 := stp_see (n := 0) h2.ok
  have e1 := Classical.not_not.1 hc1
  have hne := full_ne hq (h2.e0 e1)
  have h4 : Stp (attrs dec sgn q.full.2).2 (if ((attrs dec sgn q.full.2).2.see 0).1 = 47 then ((attrs dec sgn q.full.2).2.see 0).2.on 1 else ((attrs dec sgn q.full.2).2.see 0).2) := by
    split
    · rename_i hc
      obtain ⟨c, hs, hx⟩ := see_c (r := (attrs dec sgn q.full.2).2) (n := 0) (by rw [hc]; decide)
      have := lt_of_at hs
      rw [hx]
      exact stp_on (by omega)
    · exact h3
  have h5 := h4.trans (stp_wants (p := [62]) h4.ok)
  by_cases hc2 : (wants [62] (if ((attrs dec sgn q.full.2).2.see 0).1 = 47 then ((attrs dec sgn q.full.2).2.see 0).2.on 1 else ((attrs dec sgn q.full.2).2.see 0).2)).e ≠ 0
  · rw [if_pos hc2] at he
    exact absurd he hc2
  rw [if_neg hc2] at he ⊢
  refine ⟨_, q.full.1, (attrs dec sgn q.full.2).1, decide (((attrs dec sgn q.full.2).2.see 0).1 = 47), hon.trans (h1.trans (h2.trans h5)), Classical.not_not.1 hc2, Nat.lt_of_lt_of_le hup (h1.trans (h2.trans h5)).up, hne, by rw [← hop]; omega, ?_⟩
  simp only [decide_eq_true_eq]
theorem element_inv (hd : DecOk dec) {st : List XTk} (h : Tinv r st) (h0 : r.out ≠ [] → st ≠ []) (hl : r.at_ + 1 ≤ r.s.length) (he : (element dec sgn r).e = 0) : ∃ st', Fin r (element dec sgn r) st' ∧ (element dec sgn r).run = r.run := by
  obtain ⟨q, n, l, single, hq, hqe, hup, hne, hop, heq⟩ := element_eq (sgn := sgn) hd hl he
  rw [heq] at he ⊢
  have hre := hq.e0 hqe
  have hbe : (begin_ n l q).2.e = 0 := by
    cases single
    · exact he
    · obtain ⟨_, _, hx⟩ := close_out (r := (begin_ n l q).2) he
      simp only [if_true] at he
      rw [hx] at he
      exact he
  obtain ⟨s, at', hs, hb, _, hp, hnm⟩ := begin_out hq.ok hbe
  generalize (begin_ n l q).1 = f at *
  rw [hb] at he ⊢
  have hk : chk (r.out ++ [⟨1, s, n.2, [], at'⟩]) [] [] = some (st ++ [⟨1, s, n.2, [], at'⟩]) := chk_open h.chk rfl hne h0 (by rw [h.mt.len]; exact hop)
  have hlen : (st ++ [(⟨1, s, n.2, [], at'⟩ : XTk)]).length ≤ 64 := by rw [List.length_append, List.length_singleton, h.mt.len]; omega
  cases single
  · simp only [Bool.false_eq_true, if_false] at he ⊢
    refine ⟨st ++ [⟨1, s, n.2, [], at'⟩], ⟨⟨by rw [hq.out]; exact hk, ?_, hlen⟩, fre_snoc (by show (1 : Int) ≠ 3; decide), hq.s, by rw [hq.out]; simp, fun hx => by simp at hx, hre, ⟨hq.ok.lt, fun _ => hq.ok.le hqe⟩, hup⟩, hq.run⟩
    show Mt _ (q.op ++ [f])
    rw [hq.op]
    exact h.mt.push hnm.symm (by rw [hp, ← hq.op]; exact hs)
  · simp only [if_true] at he ⊢
    obtain ⟨s2, hs2, hx⟩ := close_out (r := { q with out := q.out ++ [⟨1, s, n.2, [], at'⟩], e := 0 }) he
    rw [hx]
    have : s2 = s := by
      have e1 : spaceV f f.pre q.op = some s2 := hs2
      rw [hp, hs] at e1
      cases e1; rfl
    subst this
    refine ⟨st, ⟨⟨?_, ?_, h.low⟩, fre_snoc (by show (2 : Int) ≠ 3; decide), hq.s, by rw [hq.out]; simp, fun _ => by simp, hre, ⟨hq.ok.lt, fun _ => hq.ok.le hqe⟩, hup⟩, hq.run⟩
    · show chk ((q.out ++ [_]) ++ [_]) [] [] = _
      rw [hq.out]
      exact chk_close hk rfl hnm.symm rfl h.low
    · show Mt st q.op
      rw [hq.op]; exact h.mt
/-- an element's end -/
theorem end_inv {st : List XTk} (h : Tinv r st) (h0 : st ≠ []) (hl : r.at_ + 2 ≤ r.s.length) (he : (end_ r).e = 0) (h2 : r.out ≠ []) : ∃ st', Fin r (end_ r) st' ∧ (end_ r).run = r.run := by
  unfold end_ at he ⊢
  dsimp only at he ⊢
  have hne : r.op ≠ [] := fun e => h0 (List.eq_nil_of_length_eq_zero (by rw [h.mt.len, e]; rfl))
  obtain ⟨op, f, hop⟩ : ∃ op f, r.op = op ++ [f] := ⟨r.op.dropLast, r.op.getLast hne, (List.dropLast_concat_getLast hne).symm⟩
  have hf : (r.on 2).op.getLastD default = f := by show r.op.getLastD default = f; rw [hop]; simp
  rw [hf] at he ⊢
  have hon := stp_on (r := r) (n := 2) hl
  have hup : r.at_ < (r.on 2).at_ := by show r.at_ < r.at_ + 2; omega
  have hq : (r.on 2).at_ ≤ (r.on 2).s.length := hl
  generalize r.on 2 = q at *
  have h1 := stp_full hq
  generalize hb : decide (q.full.2.e = 0 ∧ ¬ (q.full.1.1 = f.pre ∧ q.full.1.2 = f.name)) = b at *
  have h3 := h1.trans (stp_failIf (b := b) (c := 4) (by decide) h1.ok)
  have h4 := h3.trans (stp_blanks h3.ok)
  have h5 := hon.trans (h4.trans (stp_wants (p := [62]) h4.ok))
  have hup2 := Nat.lt_of_lt_of_le hup (h4.trans (stp_wants (p := [62]) h4.ok)).up
  generalize wants [62] (q.full.2.failIf b 4).blanks.2 = w at *
  split
  · rename_i hw
    rw [if_pos hw] at he
    obtain ⟨s, hs, hx⟩ := close_out (r := w) (f := f) he
    rw [hx]
    obtain ⟨st', t, rfl, hm, hn, hsp⟩ := Mt.pop (by rw [← hop]; exact h.mt)
    rw [h5.op, hop, spaceV_self, hsp] at hs
    cases hs
    have hl' : st'.length ≤ 64 := by have := h.low; rw [List.length_append] at this; omega
    refine ⟨st', ⟨⟨?_, ?_, hl'⟩, fre_snoc (by show (2 : Int) ≠ 3; decide), h5.s, by show r.out.length ≤ (w.out ++ [_]).length; rw [h5.out]; simp, fun _ => ?_, h5.e0 hw, ⟨h5.ok.lt, fun _ => h5.ok.le hw⟩, hup2⟩, h5.run⟩
    · show chk (w.out ++ [_]) [] [] = _
      rw [h5.out]
      exact chk_close h.chk rfl hn rfl hl'
    · show Mt st' w.op.dropLast
      rw [h5.op, hop, List.dropLast_concat]; exact hm
    · show 2 ≤ (w.out ++ [_]).length
      rw [h5.out, List.length_append, List.length_singleton]
      have := List.length_pos_iff.2 h2
      omega
  · rename_i hw
    rw [if_neg hw] at he
    exact absurd he hw
/-- what keeps tokens and open elements -/
theorem Tinv.keep {st : List XTk} (h : Tinv r st) (ho : r'.out = r.out) (hp : r'.op = r.op) : Tinv r' st := ⟨by rw [ho]; exact h.chk, by rw [hp]; exact h.mt, h.low⟩
theorem content_inv (hd : DecOk dec) {st : List XTk} (h : Tinv r st) (hf : Fre r.out) (h0 : st ≠ []) (hok : Ok r) (he : (content dec sgn r).e = 0) : ∃ st', Fin r (content dec sgn r) st' := by
  have hout : r.out ≠ [] := fun e => h0 (by have := h.chk; rw [e] at this; unfold chk at this; cases this; rfl)
  have hne : r.op ≠ [] := fun e => h0 (List.eq_nil_of_length_eq_zero (by rw [h.mt.len, e]; rfl))
  unfold content at he ⊢
  dsimp only at he ⊢
  have h1 := stp_see (n := 0) hok
  split
  · rename_i hc
    rw [if_pos hc] at he
    have h2 := h1.trans (stp_part (dec := dec) (sgn := sgn) hd h1.ok)
    have h3 : Adv r (part dec sgn (r.see 0).2).2 := h1.adv (adv_part hd h1.ok)
    exact ⟨st, h.keep h2.out h2.op, by show Fre (part dec sgn (r.see 0).2).2.out; rw [h2.out]; exact hf, h2.s, by show _ ≤ (part dec sgn (r.see 0).2).2.out.length; rw [h2.out]; exact Nat.le_refl _, fun hx => absurd (h2.op.symm.trans hx) hne, h2.e0 he, ⟨h2.ok.lt, h2.ok.le⟩, h3 he⟩
  rename_i hc
  rw [if_neg hc] at he
  have hc60 := Classical.not_not.1 hc
  obtain ⟨c, hs, hx⟩ := see_c (r := r) (n := 0) (by rw [hc60]; decide)
  rw [hx] at he ⊢ hc60
  dsimp only at he ⊢ hc60
  subst hc60
  have hy := stp_see (n := 1) hok
  split
  · rename_i hc
    rw [if_pos hc] at he
    exact absurd he hc
  rename_i hc
  rw [if_neg hc] at he
  obtain ⟨d, hs1, hx1⟩ := see_e (Classical.not_not.1 hc)
  rw [hx1] at he ⊢
  dsimp only at he ⊢
  have hlt := lt_of_at hs1
  have hz := stp_see (n := 2) hok
  split
  · rename_i hc
    rw [if_pos hc] at he
    obtain ⟨c2, hs2, hx2⟩ := see_c (r := r) (n := 2) (by rw [hc.2]; decide)
    rw [hx2] at he ⊢
    dsimp only at he ⊢
    have h2 := stp_wants (p := [60, 33, 91, 67, 68, 65, 84, 65, 91]) hok
    have h3 := h2.trans (stp_til (p := [93, 93, 62]) hd h2.ok)
    have h4 : Adv r (til dec [93, 93, 62] (wants [60, 33, 91, 67, 68, 65, 84, 65, 91] r)).2 := (adv_wants hok).stp (stp_til (p := [93, 93, 62]) hd h2.ok)
    exact ⟨st, h.keep h3.out h3.op, by show Fre (til _ _ _).2.out; rw [h3.out]; exact hf, h3.s, by show _ ≤ (til _ _ _).2.out.length; rw [h3.out]; exact Nat.le_refl _, fun hx => absurd (h3.op.symm.trans hx) hne, h3.e0 he, ⟨h3.ok.lt, h3.ok.le⟩, h4 he⟩
  rename_i hc2
  rw [if_neg hc2] at he
  split
  · rename_i hc
    rw [if_pos hc] at he
    have h2 := hz.trans (stp_comment hd hz.ok)
    have h3 : Adv r (comment dec (r.see 2).2) := hz.adv (adv_comment hd hz.ok)
    exact ⟨st, h.keep h2.out h2.op, by rw [h2.out]; exact hf, h2.s, by rw [h2.out]; exact Nat.le_refl _, fun hx => absurd (h2.op.symm.trans hx) hne, h2.e0 he, h2.ok, h3 he⟩
  rename_i hc3
  rw [if_neg hc3] at he
  have hfl : ∀ {r' : XRd} {st' : List XTk}, Tinv r.flush st → r.flush.s = r.s → r.flush.at_ = r.at_ → r.flush.e = 0 → Fin r.flush r' st' → Fin r r' st' := fun ht hs hat hfe hF =>
    ⟨hF.inv, hF.fre, hF.s.trans hs, Nat.le_trans (by unfold flush; split; exact (by unfold fail; split <;> exact Nat.le_refl _); split; simp; exact Nat.le_refl _) hF.more, hF.two, flush_e0 hfe, hF.ok, by rw [← hat]; exact hF.adv⟩
  split
  · rename_i hc
    rw [if_pos hc] at he
    have hfe : r.flush.e = 0 := by
      by_cases hfe : r.flush.e = 0
      · exact hfe
      · exfalso
        have hl : r.flush.at_ + 2 ≤ r.flush.s.length := by
          have : r.flush.at_ = r.at_ ∧ r.flush.s = r.s := by unfold flush; split; exact ⟨fail_at, fail_s⟩; split <;> exact ⟨rfl, rfl⟩
          rw [this.1, this.2]; omega
        revert he
        unfold end_
        dsimp only
        have h1 := stp_full (r := r.flush.on 2) hl
        generalize decide ((r.flush.on 2).full.2.e = 0 ∧ ¬ ((r.flush.on 2).full.1.1 = ((r.flush.on 2).op.getLastD default).pre ∧ (r.flush.on 2).full.1.2 = ((r.flush.on 2).op.getLastD default).name)) = b
        have h3 := h1.trans (stp_failIf (b := b) (c := 4) (by decide) h1.ok)
        have h4 := h3.trans (stp_blanks h3.ok)
        have h5 := h4.trans (stp_wants (p := [62]) h4.ok)
        have h6 := h5.e hfe
        rw [if_neg (by rw [h6]; exact hfe)]
        rw [h6]; exact hfe
    obtain ⟨h2, h3, h4, h5, h6, h7⟩ := flush_inv h hf h0 hfe
    obtain ⟨st', hF, _⟩ := end_inv h2 h0 (by rw [h4, h5]; omega) he h7
    exact ⟨st', hfl h2 h4 h5 hfe hF⟩
  rename_i hc4
  rw [if_neg hc4] at he
  split
  · rename_i hc
    rw [if_pos hc] at he
    have hat : r.flush.at_ = r.at_ ∧ r.flush.s = r.s := by unfold flush; split; exact ⟨fail_at, fail_s⟩; split <;> exact ⟨rfl, rfl⟩
    have hl : r.flush.at_ + 1 ≤ r.flush.s.length := by rw [hat.1, hat.2]; omega
    obtain ⟨q, _, _, _, hq, hqe, _⟩ := element_eq (sgn := sgn) hd hl he
    have hfe := hq.e0 hqe
    obtain ⟨h2, h3, h4, h5, h6, h7⟩ := flush_inv h hf h0 hfe
    obtain ⟨st', hF, _⟩ := element_inv (sgn := sgn) hd h2 (fun _ => h0) hl he
    exact ⟨st', hfl h2 h4 h5 hfe hF⟩
  · rename_i hc
    rw [if_neg hc] at he
    exact absurd he (fail_ne (by decide))
theorem contents_inv (hd : DecOk dec) : ∀ {f : Nat} {r : XRd} {st : List XTk}, Tinv r st → Fre r.out → (r.op = [] → 2 ≤ r.out.length) → Ok r → r.s.length < f + r.at_ → (contents dec sgn f r).e = 0 → Tinv (contents dec sgn f r) [] ∧ 2 ≤ (contents dec sgn f r).out.length ∧ (contents dec sgn f r).op = [] ∧ Ok (contents dec sgn f r)
  | 0, r, st, h, hf, h2, hok, hfu, he => by
    have := hok.le he
    omega
  | f + 1, r, st, h, hf, h2, hok, hfu, he => by
    by_cases hc : r.e = 0 ∧ r.op ≠ []
    · have e1 : contents dec sgn (f + 1) r = contents dec sgn f (content dec sgn r) := by conv => lhs; unfold contents; rw [if_pos hc]
      rw [e1] at he ⊢
      have h0 : st ≠ [] := fun e => hc.2 (List.eq_nil_of_length_eq_zero (by rw [← h.mt.len, e]; rfl))
      have hce : (content dec sgn r).e = 0 := Classical.byContradiction fun hn => by
        have : ∀ {n : Nat} {r : XRd}, r.e ≠ 0 → contents dec sgn n r = r := fun {n r} hne => by
          cases n with
          | zero => rfl
          | succ f => unfold contents; rw [if_neg (fun h => hne h.1)]
        rw [this hn] at he
        exact hn he
      obtain ⟨st', hF⟩ := content_inv (sgn := sgn) hd h hf h0 hok hce
      exact contents_inv hd hF.inv hF.fre hF.two hF.ok (by rw [hF.s]; have := hF.adv; omega) he
    · have e1 : contents dec sgn (f + 1) r = r := by conv => lhs; unfold contents; rw [if_neg hc]
      rw [e1] at he ⊢
      have hop : r.op = [] := Classical.byContradiction fun hn => hc ⟨he, hn⟩
      have : st = [] := List.eq_nil_of_length_eq_zero (by rw [h.mt.len, hop]; rfl)
      subst this
      exact ⟨h, h2 hop, hop, hok⟩
/-- P6.4 -/
theorem tokens_pairs (hd : DecOk dec) {b : Txt} : (tokens dec sgn b).2 ≠ 0 ∧ (tokens dec sgn b).1 = [] ∨ (tokens dec sgn b).2 = 0 ∧ chk (tokens dec sgn b).1 [] [] = some [] ∧ 2 ≤ (tokens dec sgn b).1.length := by
  unfold tokens
  split
  · exact .inl ⟨by decide, rfl⟩
  dsimp only
  have h1 := stp_front (dec := dec) (r := ⟨b, 0, 0, [], [], []⟩) hd (Nat.zero_le _)
  generalize front dec ⟨b, 0, 0, [], [], []⟩ = r at *
  have h2 := h1.trans (stp_see (n := 0) h1.ok)
  generalize hb : decide ((r.see 0).2.e = 0 ∧ (r.see 0).1 ≠ 60) = b1
  have h3 := h2.trans (stp_failIf (b := b1) (c := 4) (by decide) h2.ok)
  generalize hq1 : (r.see 0).2.failIf b1 4 = q1 at *
  have h4 := h3.trans (stp_see (n := 1) h3.ok)
  generalize hb2 : (decide ((q1.see 1).2.e = 0) && !begs (q1.see 1).1) = b2
  have h5 := h4.trans (stp_failIf (b := b2) (c := 4) (by decide) h4.ok)
  generalize hq2 : (q1.see 1).2.failIf b2 4 = q2 at *
  have hsee : q2.e = 0 → q2.at_ + 1 ≤ q2.s.length := fun he => by
    have := (stp_failIf (b := b2) (c := 4) (by decide) h4.ok).e0 (by rw [hq2]; exact he)
    obtain ⟨c, hc, _⟩ := see_e this
    have hlt := lt_of_at hc
    have e1 : q2.at_ = q1.at_ := by rw [← hq2, failIf_at, see_at]
    have e2 : q2.s = q1.s := by rw [← hq2, failIf_s, see_s]
    rw [e1, e2]; omega
  have hT : Tinv q2 [] := ⟨by rw [h5.out]; rfl, by rw [h5.op]; exact ⟨rfl, fun i t f hi => by cases hi⟩, by simp⟩
  generalize hz : misc dec (b.length + 2) (contents dec sgn (b.length + 2) (if q2.e = 0 then element dec sgn q2 else q2)) = z
  generalize decide (z.e = 0 ∧ z.at_ < z.s.length) = b3
  by_cases hc : (z.failIf b3 4).e ≠ 0
  · rw [if_pos hc]
    exact .inl ⟨hc, rfl⟩
  rw [if_neg hc]
  refine .inr ⟨rfl, ?_⟩
  have hfin := Classical.not_not.1 hc
  clear hc
  obtain ⟨hq3, hq4⟩ := failIf_e (by decide) hfin
  rw [hq4] at hfin ⊢
  subst hz
  by_cases he2 : q2.e = 0
  · rw [if_pos he2] at hfin ⊢
    have hce : (contents dec sgn (b.length + 2) (element dec sgn q2)).e = 0 := by
      refine Classical.byContradiction fun hn => ?_
      have : misc dec (b.length + 2) (contents dec sgn (b.length + 2) (element dec sgn q2)) = contents dec sgn (b.length + 2) (element dec sgn q2) := by
        unfold misc; rw [if_pos hn]
      rw [this] at hfin
      exact hn hfin
    have hel : (element dec sgn q2).e = 0 := by
      refine Classical.byContradiction fun hn => ?_
      have : contents dec sgn (b.length + 2) (element dec sgn q2) = element dec sgn q2 := by
        unfold contents; rw [if_neg (fun h => hn h.1)]
      rw [this] at hce
      exact hn hce
    obtain ⟨st', hF, _⟩ := element_inv (sgn := sgn) hd hT (fun hx => absurd (h5.out) hx) (hsee he2) hel
    obtain ⟨g1, g2, g3, g4⟩ := contents_inv (sgn := sgn) (f := b.length + 2) hd hF.inv hF.fre hF.two hF.ok (by rw [hF.s, h5.s]; show b.length < _; omega) hce
    have h6 := stp_misc (f := b.length + 2) hd g4
    rw [h6.out]
    exact ⟨g1.chk, g2⟩
  · exfalso
    rw [if_neg he2] at hfin
    have e1 : contents dec sgn (b.length + 2) q2 = q2 := by unfold contents; rw [if_neg (fun h => he2 h.1)]
    rw [e1] at hfin
    have e2 : misc dec (b.length + 2) q2 = q2 := by unfold misc; rw [if_pos he2]
    rw [e2] at hfin
    exact he2 hfin
end Go.Ez.XRd
namespace Go.Ez
open Go Go.Proofs Go.RowKit
set_option linter.unusedSimpArgs false
set_option linter.unusedVariables false
/-- pools' names -/
inductive PoolK where
  | a | b | c
section
variable {w0 W : World} {G : Nat → Prop} {l R : List As} {α : Type} {f : α → List Value} {e : TypeId} {sz : Nat} {zs : List (Value × List α)} {v : Value}
/-- slices kept -/
def Kq (f : α → List Value) (e : TypeId) (sz : Nat) (zs : List (Value × List α)) (_ : PoolK) : As := As.all True (zs.map fun z => Ky z.1 (Ow e sz z.2.length (rcells f z.2)))
theorem sepL_memQ {A : As} {w : World} : ∀ {L : List As} {F : Nat → Prop}, A ∈ L → sepL L F w → ∃ F', A.p F' w
  | B :: L, F, hm, ⟨F1, F2, h1, h2, _⟩ => by
    rcases List.mem_cons.1 hm with rfl | hm
    · exact ⟨F1, h1⟩
    · exact sepL_memQ hm h2
theorem St.kqNil (k : PoolK) (f : α → List Value) (e : TypeId) (sz : Nat) (h : St w0 G l W) : St w0 G (Ky k (Kq f e sz []) :: l) W := St.shutA (L := []) trivial h
theorem St.kqGet (k : PoolK) {xs : List α} [i : Has l k (Kq f e sz zs) R] (h : St w0 G l W) (hz : (v, xs) ∈ zs) : Sl W sz v xs.length (rcells f xs) := by
  obtain ⟨F, ⟨_, hF⟩, _⟩ := (h.find (k := k) (X := Kq f e sz zs)).fact
  obtain ⟨F', h1⟩ := sepL_memQ (List.mem_map.2 ⟨_, hz, rfl⟩) hF
  exact Sl.of_own h1.2
theorem St.kqAdd (k : PoolK) {xs : List α} {cs : List Value} {n : Nat} {R1 : List As} [i : Has l v (Ow e sz n cs) R1] [j : Has R1 k (Kq f e sz zs) R] (h : St w0 G l W) (hn : n = xs.length) (hc : cs = rcells f xs) : St w0 G (Ky k (Kq f e sz ((v, xs) :: zs)) :: R) W := by
  subst hn; subst hc
  obtain ⟨F0, hF0, hG0⟩ := h.own
  have h : St w0 G (Ky v (Ow e sz xs.length (rcells f xs)) :: Ky k (Kq f e sz zs) :: R) W := { h with own := ⟨F0, sepL_mono j.to (i.to F0 W hF0), hG0⟩ }
  refine St.shutA (L := (((v, xs) :: zs).map fun z => Ky z.1 (Ow e sz z.2.length (rcells f z.2)))) trivial ?_
  obtain ⟨F, ⟨F1, F2, h1, h2, hd, hF⟩, hG⟩ := h.own
  obtain ⟨F3, F4, h3, h4, hd', hF'⟩ := h2
  exact { h with own := ⟨F, ⟨F1, F2, h1, sepL_append.2 ⟨F3, F4, h3.2, h4, hd', hF'⟩, hd, hF⟩, hG⟩ }
end
end Go.Ez
namespace Go.Ez
open Go Go.Proofs Go.RowKit
open Go.ChangeMaps (setBlock)
set_option linter.unusedSimpArgs false
set_option linter.unusedVariables false
abbrev Fm := List (Txt × Txt)
abbrev Zs := Unit
def PlIn (_ : Zs) (v : Value) (x : Txt) : Prop := v = strV x
abbrev getS := XRd.lookS
abbrev putM (k v : Txt) (m : Fm) : Fm := XRd.putS m k v
def gt (k : Txt) (m : Fm) : Txt := (getS k m).getD []
theorem getS_put {m : Fm} {j k v : Txt} : getS j (putM k v m) = if j = k then some v else getS j m := by
  show XRd.lookS j (XRd.putS m k v) = _
  unfold XRd.putS
  conv => lhs; unfold XRd.lookS
  simp only
  by_cases h : j = k
  · rw [if_pos h.symm, if_pos h]
  · rw [if_neg (fun e => h e.symm), if_neg h]
    induction m with
    | nil => rfl
    | cons p m ih =>
      rw [List.filter_cons]
      by_cases hp : p.1 = k
      · have : (decide (p.1 ≠ k)) = false := by simp [hp]
        rw [this]
        simp only [Bool.false_eq_true, if_false]
        rw [ih]
        show _ = XRd.lookS j (p :: m)
        conv => rhs; unfold XRd.lookS
        rw [if_neg (fun e => h (e.symm.trans hp))]
      · have : (decide (p.1 ≠ k)) = true := by simp [hp]
        rw [this]
        simp only [if_true]
        unfold XRd.lookS
        rw [ih]
abbrev Ge := Nat × Txt × Value × Txt
def Ge.ent (e : Ge) : MapEntry := { key := strV e.2.1, val := e.2.2.1, born := e.1 }
/-- entries that tell m -/
structure GmOk (zs : Zs) (m : Fm) (E : List Ge) (clock : Nat) : Prop where
  keys : E.Pairwise fun a b => a.2.1 ≠ b.2.1
  mem : ∀ k x, (∃ e ∈ E, e.2.1 = k ∧ e.2.2.2 = x) ↔ getS k m = some x
  born : E.Pairwise fun a b => a.1 ≠ b.1
  old : ∀ e ∈ E, e.1 < clock
  kept : ∀ e ∈ E, PlIn zs e.2.2.1 e.2.2.2
def mO (E : List Ge) (clock : Nat) : Obj := .map (E.map Ge.ent).toArray clock
/-- block b is a map that tells m -/
def Mg (zs : Zs) (m : Fm) (b : Nat) : As := As.ex fun p : List Ge × Nat => As.all (GmOk zs m p.1 p.2) [Ky b (Ob (mO p.1 p.2))]
/-- where a key stands -/
def findE (k : Txt) : List Ge → Nat → Option (Nat × Value)
  | [], _ => none
  | e :: E, i => if k = e.2.1 then some (i, e.2.2.1) else findE k E (i + 1)
theorem findNow_E (k : Txt) : ∀ (E : List Ge) (i : Nat), Instr.findNow .string (strV k) (E.map Ge.ent) i = some (findE k E i)
  | [], _ => rfl
  | e :: E, i => by
    have hs : Instr.sameNow .string (strV k) (strV e.2.1) = some (decide (k = e.2.1)) := by
      show some ((⟨k.toArray⟩ : ByteArray) == ⟨e.2.1.toArray⟩) = _
      congr 1
      rw [Bool.eq_iff_iff, MapKept.bytes_beq, decide_eq_true_iff]
      exact strL_inj
    show (match Instr.sameNow .string (strV k) (strV e.2.1) with | some true => _ | some false => _ | none => _) = _
    rw [hs]
    unfold findE
    by_cases hk : k = e.2.1
    · rw [if_pos hk]; simp [hk, Ge.ent]
    · rw [if_neg hk]; simp [hk]; exact findNow_E k E (i + 1)
theorem findE_some {k : Txt} {v : Value} : ∀ {E : List Ge} {i j : Nat}, findE k E i = some (j, v) → ∃ q e, j = i + q ∧ E[q]? = some e ∧ e.2.1 = k ∧ e.2.2.1 = v
  | [], _, _, h => by cases h
  | e :: E, i, j, h => by
    unfold findE at h
    split at h
    · rename_i hk
      cases h
      exact ⟨0, e, rfl, rfl, hk.symm, rfl⟩
    · obtain ⟨q, e', h1, h2, h3⟩ := findE_some h
      exact ⟨q + 1, e', by omega, by simpa using h2, h3⟩
theorem findE_none {k : Txt} : ∀ {E : List Ge} {i : Nat}, findE k E i = none → ∀ e ∈ E, e.2.1 ≠ k
  | [], _, _, _, he => by cases he
  | e :: E, i, h, e', he => by
    unfold findE at h
    split at h
    · cases h
    · rename_i hk
      rcases List.mem_cons.1 he with rfl | he
      · exact fun h => hk h.symm
      · exact findE_none h e' he
section
variable {P : Program} {w0 W : World} {G : Nat → Prop} {l R : List As} {zs zs' : Zs} {m : Fm} {b : Nat} {t kt et : TypeId} {KW : Value → World → Prop} {KU : World → Prop} {K : Value → Prop}
theorem St.openG [i : Has l b (Mg zs m) R] (h : St w0 G l W) : ∃ E c, GmOk zs m E c ∧ St w0 G (Ky b (Ob (mO E c)) :: R) W := by
  have h1 : St w0 G (Mg zs m b :: R) W := h.find (k := b) (X := Mg zs m)
  obtain ⟨⟨E, c⟩, h2⟩ := h1.openE
  obtain ⟨hv, h3⟩ := h2.open1
  exact ⟨E, c, hv, h3⟩
theorem St.shutG {E : List Ge} {c : Nat} [i : Has l b (Ob (mO E c)) R] (h : St w0 G l W) (hg : GmOk zs m E c) : St w0 G (Ky b (Mg zs m) :: R) W :=
  St.shutE (f := fun p : List Ge × Nat => As.all (GmOk zs m p.1 p.2) [Ky b (Ob (mO p.1 p.2))]) (E, c) (St.shut1 hg (h.find (k := b) (X := Ob (mO E c))))
theorem run_findKey (hk : P.underlying kt = some .string) (k : Txt) (E : List Ge) : (Instr.findKey kt (strV k) (E.map Ge.ent)).run P W = .ok (findE k E 0) W := by
  have : (Instr.findKey kt (strV k) (E.map Ge.ent)) = (do match Instr.findNow (← underlying kt) (strV k) (E.map Ge.ent) 0 with | some r => pure r | none => Instr.findAsking kt (strV k) (E.map Ge.ent)) := rfl
  rw [this]
  simp only [Sem.run_bind, run_underlying hk, Result.andThen, findNow_E]
  rfl
theorem run_checkKey (hk : P.underlying kt = some .string) (k : Txt) (e : Bool) : (Instr.checkKey e 10000 kt (strV k)).run P W = .ok () W := by
  exact MapKept.run_checkKey hk (by simp [MapKept.IsKey]) e 9999
theorem GmOk.found {E : List Ge} {c : Nat} (hg : GmOk zs m E c) (k : Txt) : (findE k E 0 = none ∧ getS k m = none) ∨ ∃ i e, findE k E 0 = some (i, e.2.2.1) ∧ E[i]? = some e ∧ e.2.1 = k ∧ getS k m = some e.2.2.2 ∧ PlIn zs e.2.2.1 e.2.2.2 := by
  cases hf : findE k E 0 with
  | none =>
    refine .inl ⟨rfl, ?_⟩
    cases hx : getS k m with
    | none => rfl
    | some x =>
      obtain ⟨e, he, h1, _⟩ := (hg.mem k x).2 hx
      exact absurd h1 (findE_none hf e he)
  | some p =>
    obtain ⟨j, v⟩ := p
    obtain ⟨q, e, h1, h2, h3, h4⟩ := findE_some hf
    have hm := List.mem_of_getElem? h2
    refine .inr ⟨q, e, by rw [h1, Nat.zero_add, h4], h2, h3, (hg.mem k _).1 ⟨e, hm, h3, rfl⟩, hg.kept e hm⟩
theorem mapOb [i : Has l b (Mg zs m) R] (h : St w0 G l W) : ∃ E c, GmOk zs m E c ∧ W.heap[b]? = some (mO E c) := by
  obtain ⟨E, c, hg, h⟩ := h.openG (b := b)
  exact ⟨E, c, hg, h.ob⟩
theorem run_look {E : List Ge} {c : Nat} {k : Txt} {ok : Bool} [U : Und P t (.map kt et)] [U1 : Und P kt .string] [T : Ty1 P et (.string ⟨#[]⟩)] (hg : GmOk zs m E c) (hb : W.heap[b]? = some (mO E c)) :
    ∃ v, PlIn zs v (gt k m) ∧ (Instr.lookup t (.map (some b)) (strV k) ok).run P W = .ok (if ok then .tuple #[v, .bool (getS k m).isSome] else v) W := by
  have hgo : (getObj b).run P W = .ok (mO E c) W := MapKept.run_getObj_map hb
  rcases hg.found k with ⟨h1, h2⟩ | ⟨i, e, h1, _, _, h2, h3⟩
  · refine ⟨.string ⟨#[]⟩, by unfold gt; rw [h2]; rfl, ?_⟩
    simp only [Instr.lookup, Sem.run_bind, run_underlying U.eq, Result.andThen, hgo, mO, Sem.run_pure, run_checkKey U1.eq, List.toList_toArray, run_findKey U1.eq, h1, T.zero, h2]
    rfl
  · refine ⟨e.2.2.1, by unfold gt; rw [h2]; exact h3, ?_⟩
    simp only [Instr.lookup, Sem.run_bind, run_underlying U.eq, Result.andThen, hgo, mO, Sem.run_pure, run_checkKey U1.eq, List.toList_toArray, run_findKey U1.eq, h1, h2]
    rfl
theorem St.look2 {k : Txt} [i : Has l b (Mg zs m) R] [U : Und P t (.map kt et)] [U1 : Und P kt .string] [T : Ty1 P et (.string ⟨#[]⟩)] (h : St w0 G l W) (kk : ∀ v, PlIn zs v (gt k m) → KW (.tuple #[v, .bool (getS k m).isSome]) W) : RunV P (Instr.lookup t (.map (some b)) (strV k) true) W KW := by
  obtain ⟨E, c, hg, hb⟩ := mapOb (b := b) h
  obtain ⟨v, h1, h2⟩ := run_look (P := P) (t := t) (kt := kt) (et := et) (k := k) (ok := true) hg hb
  exact .of h2 (kk v h1)
/-- m[k] = v -/
theorem St.mapPut {k x : Txt} {v : Value} [i : Has l b (Mg zs m) R] [U : Und P t (.map kt et)] [U1 : Und P kt .string] (h : St w0 G l W) (hv : PlIn zs v x) (kk : ∀ W', St w0 G (Ky b (Mg zs (putM k x m)) :: R) W' → KU W') : RunU P (Instr.mapUpdate t (.map (some b)) (strV k) v) W KU := by
  obtain ⟨E, c, hg, h⟩ := h.openG (b := b)
  have hb := h.ob (b := b) (o := mO E c)
  have hgo : (getObj b).run P W = .ok (mO E c) W := MapKept.run_getObj_map hb
  rcases hg.found k with ⟨h1, h2⟩ | ⟨i, e, h1, hi, h3, h2, _⟩
  · have hn := findE_none h1
    refine .of (w' := W.putObj b (mO (E ++ [(c, k, v, x)]) (c + 1))) ?_ (kk _ (St.shutG (h.putO (b := b) (o := mO E c) _) ⟨?_, ?_, ?_, ?_, ?_⟩))
    · have e1 : (E.map Ge.ent).toArray.push { key := strV k, val := v, born := c } = ((E ++ [(c, k, v, x)]).map Ge.ent).toArray := by simp [Ge.ent]
      simp only [Instr.mapUpdate, Sem.run_bind, run_underlying U.eq, Result.andThen, hgo, mO, Sem.run_pure, run_checkKey U1.eq, List.toList_toArray, run_findKey U1.eq, h1]
      rw [MapKept.run_setObj_map _ hb]
      simp [World.putObj, Ge.ent]
    · refine List.pairwise_append.2 ⟨hg.keys, by simp, fun a ha y hy => ?_⟩
      simp only [List.mem_singleton] at hy
      subst hy
      exact hn a ha
    · intro j y
      rw [getS_put]
      constructor
      · rintro ⟨e, he, e1, e2⟩
        rcases List.mem_append.1 he with he | he
        · rw [if_neg (fun hx => hn e he (e1.trans hx))]
          exact (hg.mem j y).1 ⟨e, he, e1, e2⟩
        · simp only [List.mem_singleton] at he
          subst he
          rw [if_pos e1.symm]; exact congrArg some e2
      · intro hy
        split at hy
        · rename_i hj
          cases hy
          exact ⟨(c, k, v, x), by simp, hj.symm, rfl⟩
        · obtain ⟨e, he, e1⟩ := (hg.mem j y).2 hy
          exact ⟨e, by simp [he], e1⟩
    · refine List.pairwise_append.2 ⟨hg.born, by simp, fun a ha y hy => ?_⟩
      simp only [List.mem_singleton] at hy
      subst hy
      have := hg.old a ha
      show a.1 ≠ c
      omega
    · intro e he
      rcases List.mem_append.1 he with he | he
      · have := hg.old e he; omega
      · simp only [List.mem_singleton] at he
        subst he; show c < c + 1; omega
    · intro e he
      rcases List.mem_append.1 he with he | he
      · exact hg.kept e he
      · simp only [List.mem_singleton] at he
        subst he; exact hv
  · have hil := List.getElem?_eq_some_iff.1 hi
    have hkeys : ∀ a ∈ E, a.2.1 = k → a = e := fun a ha hk => by
      obtain ⟨j, hj, he⟩ := List.getElem_of_mem ha
      rcases Nat.lt_trichotomy i j with hlt | he' | hlt
      · have := List.pairwise_iff_getElem.1 hg.keys i j hil.1 hj hlt
        rw [hil.2, he] at this; exact absurd (h3.trans hk.symm) this
      · subst he'; rw [← he, hil.2]
      · have := List.pairwise_iff_getElem.1 hg.keys j i hj hil.1 hlt
        rw [hil.2, he] at this; exact absurd (hk.trans h3.symm) this
    have hset : ∀ a, a ∈ E.set i (e.1, k, v, x) → a = (e.1, k, v, x) ∨ (a ∈ E ∧ a.2.1 ≠ k) := fun a ha => by
      obtain ⟨j, hj, he⟩ := List.getElem_of_mem ha
      rw [List.length_set] at hj
      rw [List.getElem_set] at he
      split at he
      · exact .inl he.symm
      · rename_i hne
        refine .inr ⟨by rw [← he]; exact List.getElem_mem _, fun hk => ?_⟩
        rcases Nat.lt_or_gt_of_ne hne with hlt | hlt
        · have := List.pairwise_iff_getElem.1 hg.keys i j hil.1 hj hlt
          rw [hil.2, he] at this; exact this (h3.trans hk.symm)
        · have := List.pairwise_iff_getElem.1 hg.keys j i hj hil.1 hlt
          rw [hil.2, he] at this; exact this (hk.trans h3.symm)
    have hof : ∀ a ∈ E, a.2.1 ≠ k → a ∈ E.set i (e.1, k, v, x) := fun a ha hk => by
      obtain ⟨j, hj, he⟩ := List.getElem_of_mem ha
      have hne : i ≠ j := fun hx => by subst hx; rw [hil.2] at he; exact hk (by rw [← he]; exact h3)
      have : (E.set i (e.1, k, v, x))[j]? = some a := by rw [List.getElem?_set_ne hne, List.getElem?_eq_getElem hj, he]
      exact List.mem_of_getElem? this
    have hin : (e.1, k, v, x) ∈ E.set i (e.1, k, v, x) := List.mem_of_getElem? (List.getElem?_set_self hil.1)
    refine .of (w' := W.putObj b (mO (E.set i (e.1, k, v, x)) c)) ?_ (kk _ (St.shutG (h.putO (b := b) (o := mO E c) _) ⟨?_, ?_, ?_, ?_, ?_⟩))
    · have hke : ((E.map Ge.ent).toArray[i]?).map (·.key) = some (strV k) := by simp [hi, Ge.ent, h3]
      have e1 : ((E.map Ge.ent).toArray.modify i fun q => { q with key := strV k, val := v }) = ((E.set i (e.1, k, v, x)).map Ge.ent).toArray := by
        apply Array.toList_inj.1
        rw [Array.toList_modify]
        simp only [List.map_set]
        refine List.ext_getElem? fun j => ?_
        rw [List.getElem?_modify]
        by_cases hj : i = j
        · subst hj
          rw [List.getElem?_set_self (by simpa using hil.1), List.getElem?_map, hi]
          simp [Ge.ent]
        · rw [List.getElem?_set_ne hj]
          simp [hj]
      have hsb : Instr.sameBits 10000 (strV k) (strV k) = true := by
        show ((⟨k.toArray⟩ : ByteArray) == ⟨k.toArray⟩) = true
        exact (MapKept.bytes_beq _ _).2 rfl
      have hks : (Instr.keyThatStays (strV k) (strV k)).run P W = .ok (strV k) W := by
        unfold Instr.keyThatStays
        rw [hsb]
        rfl
      simp only [Instr.mapUpdate, Sem.run_bind, run_underlying U.eq, Result.andThen, hgo, mO, Sem.run_pure, run_checkKey U1.eq, List.toList_toArray, run_findKey U1.eq, h1, hke, Option.getD_some, hks, e1]
      exact MapKept.run_setObj_map _ hb
    · have : (E.set i (e.1, k, v, x)).map (fun a => a.2.1) = E.map fun a => a.2.1 := by
        rw [List.map_set]
        refine List.ext_getElem? fun j => ?_
        by_cases hj : i = j
        · subst hj
          rw [List.getElem?_set_self (by simpa using hil.1), List.getElem?_map, hi]
          exact congrArg some h3.symm
        · rw [List.getElem?_set_ne hj]
      have h5 : (E.map fun a => a.2.1).Pairwise (· ≠ ·) := List.pairwise_map.2 hg.keys
      rw [← this] at h5
      exact List.pairwise_map.1 h5
    · intro j y
      rw [getS_put]
      constructor
      · rintro ⟨a, ha, e1, e2⟩
        rcases hset a ha with rfl | ⟨ha, hk⟩
        · rw [if_pos e1.symm]; exact congrArg some e2
        · rw [if_neg (fun hx => hk (e1.trans hx))]
          exact (hg.mem j y).1 ⟨a, ha, e1, e2⟩
      · intro hy
        split at hy
        · rename_i hj
          cases hy
          exact ⟨_, hin, hj.symm, rfl⟩
        · rename_i hj
          obtain ⟨a, ha, e1, e2⟩ := (hg.mem j y).2 hy
          exact ⟨a, hof a ha (by rw [e1]; exact hj), e1, e2⟩
    · have : (E.set i (e.1, k, v, x)).map (fun a => a.1) = E.map fun a => a.1 := by
        rw [List.map_set]
        refine List.ext_getElem? fun j => ?_
        by_cases hj : i = j
        · subst hj
          rw [List.getElem?_set_self (by simpa using hil.1), List.getElem?_map, hi]
          rfl
        · rw [List.getElem?_set_ne hj]
      have h5 : (E.map fun a => a.1).Pairwise (· ≠ ·) := List.pairwise_map.2 hg.born
      rw [← this] at h5
      exact List.pairwise_map.1 h5
    · intro a ha
      rcases hset a ha with rfl | ⟨ha, _⟩
      · exact hg.old e (List.mem_of_getElem? hi)
      · exact hg.old a ha
    · intro a ha
      rcases hset a ha with rfl | ⟨ha, _⟩
      · exact hv
      · exact hg.kept a ha
/-- a map without entries -/
theorem St.mapNew [U : Und P t (.map kt et)] (h : St w0 G l W) (zs : Zs) (kk : ∀ b W', St w0 G (Ky b (Mg zs []) :: l) W' → KW (.map (some b)) W') : RunV P (Instr.makeMap t none) W KW := by
  have h1 := h.newB (b := W.heap.size) (o := mO [] 0) ((Below.refl _ W).alloc (Nat.le_refl _) _) (Nat.le_refl _) (World.alloc_heap_new W _)
  have h2 := St.shutG (b := W.heap.size) (zs := zs) (m := []) (E := []) (c := 0) h1 ⟨List.Pairwise.nil, fun k x => by simp [getS, XRd.lookS], List.Pairwise.nil, by simp, by simp⟩
  refine .of ?_ (kk _ _ h2)
  simp [Instr.makeMap, mO, run_newObj_alloc]
def Km (ms : List (Nat × Fm)) (_ : PoolK) : As := As.all True (ms.map fun z => Ky z.1 (Mg () z.2))
variable {ms : List (Nat × Fm)}
theorem St.kmNil (k : PoolK) (h : St w0 G l W) : St w0 G (Ky k (Km []) :: l) W := St.shutA (L := []) trivial h
theorem St.kmGet (k : PoolK) [i : Has l k (Km ms) R] (h : St w0 G l W) (hz : (b, m) ∈ ms) : ∃ E c, GmOk () m E c ∧ W.heap[b]? = some (mO E c) := by
  obtain ⟨F, ⟨_, hF⟩, _⟩ := (h.find (k := k) (X := Km ms)).fact
  obtain ⟨F', ⟨x, hx⟩⟩ := sepL_memQ (List.mem_map.2 ⟨_, hz, rfl⟩) hF
  obtain ⟨h1, F1, F2, h2, _⟩ := hx
  exact ⟨x.1, x.2, h1, h2.2⟩
theorem St.kmAdd (k : PoolK) {R1 : List As} [i : Has l b (Mg () m) R1] [j : Has R1 k (Km ms) R] (h : St w0 G l W) : St w0 G (Ky k (Km ((b, m) :: ms)) :: R) W := by
  obtain ⟨F0, hF0, hG0⟩ := h.own
  have h : St w0 G (Ky b (Mg () m) :: Ky k (Km ms) :: R) W := { h with own := ⟨F0, sepL_mono j.to (i.to F0 W hF0), hG0⟩ }
  refine St.shutA (L := (((b, m) :: ms).map fun z => Ky z.1 (Mg () z.2))) trivial ?_
  obtain ⟨F, ⟨F1, F2, h1, h2, hd, hF⟩, hG⟩ := h.own
  obtain ⟨F3, F4, h3, h4, hd', hF'⟩ := h2
  exact { h with own := ⟨F, ⟨F1, F2, h1, sepL_append.2 ⟨F3, F4, h3.2, h4, hd', hF'⟩, hd, hF⟩, hG⟩ }
/-- a map of the pool, read -/
theorem St.kmLook (k : PoolK) {j : Txt} [i : Has l k (Km ms) R] [U : Und P t (.map kt et)] [U1 : Und P kt .string] [T : Ty1 P et (.string ⟨#[]⟩)] (h : St w0 G l W) (hz : (b, m) ∈ ms) (kk : KW (.tuple #[strV (gt j m), .bool (getS j m).isSome]) W) : RunV P (Instr.lookup t (.map (some b)) (strV j) true) W KW := by
  obtain ⟨E, c, hg, hb⟩ := h.kmGet (k := k) (ms := ms) hz
  obtain ⟨v, h1, h2⟩ := run_look (P := P) (t := t) (kt := kt) (et := et) (k := j) (ok := true) hg hb
  cases h1
  exact .of h2 kk
end
end Go.Ez
namespace Go.Ez.XRd
open Go Go.Ez
theorem near_app {k : Txt} : ∀ {a b : List XFr}, near k (a ++ b) = match near k a with | some s => some s | none => near k b
  | [], b => rfl
  | f :: a, b => by
    have ih := near_app (k := k) (a := a) (b := b)
    show (match lookS k f.spaces with | some s => some s | none => near k (a ++ b)) = (match (match lookS k f.spaces with | some s => some s | none => near k a) with | some s => some s | none => near k b)
    cases lookS k f.spaces with
    | some s => rfl
    | none => exact ih
theorem near_one {k : Txt} {f : XFr} : near k [f] = lookS k f.spaces := by
  unfold near
  cases lookS k f.spaces <;> rfl
end Go.Ez.XRd
namespace Go.Proofs.YtlflpbflpcmckaaGreatDoor
open Go Go.Ez Go.RowKit Go.Lib
set_option linter.unusedSimpArgs false
set_option linter.unusedVariables false
instance (a : Option Nat) : Cel1 (.map a) := ⟨rfl⟩
/-- a frame's cells -/
abbrev fcell (p : XFr × Nat) : List Value := [strV p.1.pre, strV p.1.name, .map (some p.2)]
theorem fcell_len (p : XFr × Nat) : (fcell p).length = 3 := rfl
abbrev FrS (pv : List (XFr × Nat)) : Value → As := Ow 124 3 pv.length (rcells fcell pv)
/-- what slices.Backward tells -/
def backF (r : List (XFr × Nat)) : List (List Value) := (List.range r.length).map fun j => [nV .i64 (r.length - 1 - j), .agg (fcell (r.getD (r.length - 1 - j) default)).toArray]
theorem backF_get {r : List (XFr × Nat)} {j : Nat} (hj : j < r.length) {p : XFr × Nat} (hp : r[r.length - 1 - j]? = some p) : (backF r)[j]? = some [nV .i64 (r.length - 1 - j), .agg (fcell p).toArray] := by
  unfold backF
  rw [List.getElem?_map, List.getElem?_range hj]
  have : r.getD (r.length - 1 - j) default = p := by rw [List.getD_eq_getElem?_getD, hp]; rfl
  simp only [Option.map_some, this]
theorem backF_len (r : List (XFr × Nat)) : (backF r).length = r.length := by simp [backF]
theorem backF_rev {r : List (XFr × Nat)} {j : Nat} {x : List Value} (h : (backF r)[j]? = some x) : ∃ p, r.reverse[j]? = some p ∧ x = [nV .i64 (r.length - 1 - j), .agg (fcell p).toArray] := by
  have hj : j < r.length := by rw [← backF_len r]; exact (List.getElem?_eq_some_iff.1 h).1
  obtain ⟨p, hp⟩ : ∃ p, r[r.length - 1 - j]? = some p := ⟨_, List.getElem?_eq_getElem (by omega)⟩
  rw [backF_get hj hp] at h
  cases h
  exact ⟨p, by rw [List.getElem?_reverse hj]; exact hp, rfl⟩
abbrev ItF (b : Nat) (cl : Value) (r : List (XFr × Nat)) : Value → As := Two (Ky b (Ob (.cells [cl].toArray 78 (0, 0)))) (Ky cl (FrS r))
section
variable {w0 W W' : World} {G : Nat → Prop} {l R R1 R2 : List As} {RR : Value → World → Prop} {t s pre : Txt} {b g n mb : Nat} {r : XRd} {v vo vp vx vb : Value} {p : XPr} {f : XFr} {pv : List (XFr × Nat)} {ms : List (Nat × Fm)}
abbrev backFn (b : Nat) : Value := .func (.func 156) #[] #[.pointer (some ⟨b, 0, none⟩)]
theorem backF_itr {b : Nat} {cl : Value} {r : List (XFr × Nat)} (hl : r.length ≤ 1000000) : Itr Tryz.prog w0 G (backFn b) (backF r) (ItF b cl r) := by
  refine ⟨156, _, rfl, hent _ (by kernel_rfl), fun yv C D I W RR oy hY h hd hs => ?_⟩
  show CallF Tryz.prog 156 #[yv, .pointer (some ⟨b, 0, none⟩)] W RR
  refine sh156_calls ?_
  unfold sh156
  replace h := h.untwo (k := backFn b)
  refine h.load ?_
  refine x_lenS (h.osl (v := cl)) ?_
  refine a_sub64 (by omega) (by omega) ?_
  have back : ∀ (j : Nat) (E : Nat → As) (W : World), St w0 G (Ky j E :: Ky b (Ob (.cells [cl].toArray 78 (0, 0))) :: Ky cl (FrS r) :: I) W → St w0 G (Ky j E :: Ky (backFn b) (ItF b cl r) :: I) W := fun j E W h =>
    (St.two (k := backFn b) (a := b) (b := cl) h).to
  refine lpx (α := Nat) (fun i => [.int .i64 ((r.length : Int) - 1 - i)]) (fun i W => i ≤ r.length ∧ St w0 G (Ky i C :: Ky b (Ob (.cells [cl].toArray 78 (0, 0))) :: Ky cl (FrS r) :: I) W)
    (fun i => r.length - i) 0 (fun _ => rfl) (by simp) ⟨Nat.zero_le _, h.to⟩ ?_
  rintro next i W hnext ⟨hi, h⟩
  refine app1 ?_
  refine a_geq (ifd (fun hc => ?_) fun hc => ?_)
  · have hil : i < r.length := by omega
    have ei : (r.length : Int) - 1 - i = ((r.length - 1 - i : Nat) : Int) := by omega
    obtain ⟨p, hp⟩ : ∃ p, r[r.length - 1 - i]? = some p := ⟨_, List.getElem?_eq_getElem (by omega)⟩
    refine h.load ?_
    rw [ei]
    refine x_rcl fcell_len (h.osl (v := cl)) rfl hp ?_
    refine hY i _ (backF_get hil hp) (Ky b (Ob (.cells [cl].toArray 78 (0, 0))) :: Ky cl (FrS r) :: I) W _ h.to (fun W h => ?_) fun W h => ?_
    · refine a_not (iff' ?_)
      refine a_sub64 (by omega) (by omega) ?_
      rw [show (((r.length - 1 - i : Nat) : Int) - 1) = (r.length : Int) - 1 - ((i + 1 : Nat) : Int) by omega]
      exact ⟨rfl, rfl, hnext (i + 1) W (by omega) ⟨by omega, h.to⟩⟩
    · refine a_not (ift ?_)
      exact hs (i + 1) W (by rw [backF_len]; omega) (back _ _ W h.to)
  · have hil : i = r.length := by omega
    subst hil
    exact hd W (by rw [backF_len]; exact back _ _ W h.to)
theorem tells_spec (h : St w0 G l W) (k : ∀ W', St w0 G l W' → RR (.tuple #[strV (XRd.tells p).1, .bool (XRd.tells p).2]) W') : CallF Tryz.prog 108 #[.agg (prc p).toArray] W RR := by
  refine sh108_calls ?_
  unfold sh108
  unfold XRd.tells at k
  refine h.boxS fun b W h => ?_
  refine jni (fun vs W' => vs = [.pointer (some ⟨b, 0, none⟩)] ∧ ¬ (p.pre = [] ∧ p.name = XRd.told) ∧ St w0 G (Ky b (PrO p) :: l) W') ?_ ?_
  · rintro vs W _ ⟨rfl, hc, h⟩
    rw [if_neg hc] at k
    refine app1 ?_
    refine ⟨St w0 G _, h.drew, ?_⟩
    replace h := h.drew
    (repeat (first | (with_reducible refine ift ?_) | (with_reducible refine iff' ?_) | (with_reducible refine a_lss ?_) | (with_reducible refine a_leq ?_) | (with_reducible refine a_gtr ?_) | (with_reducible refine a_geq ?_) | (with_reducible refine w_eql ?_) | (with_reducible refine w_neq ?_) | (with_reducible refine s_eql ?_) | (with_reducible refine s_neq ?_) | ((with_reducible refine a_add64 ?h0 ?h1 ?_); (case h0 => omega); (case h1 => omega);  skip) | ((with_reducible refine a_sub64 ?h0 ?h1 ?_); (case h0 => omega); (case h1 => omega);  skip) | ((with_reducible refine a_mul64 ?h0 ?h1 ?_); (case h0 => omega); (case h1 => omega);  skip) | (with_reducible refine a_notd ?_) | (with_reducible refine a_not ?_) | (with_reducible refine a_ext0 ?_) | (with_reducible refine a_ext1 ?_) | (with_reducible refine a_ext2 ?_) | (with_reducible refine x_len ?_) | (with_reducible refine x_lens ?_) | (with_reducible refine x_eqb ?_) | (with_reducible refine x_neb ?_) | (with_reducible refine x_nilP ?_) | (with_reducible refine x_nilPn ?_) | (with_reducible refine x_nilF ?_) | (with_reducible refine x_nilFF ?_) | (with_reducible refine w_eqlL ?_) | (with_reducible refine w_neqL ?_) | (with_reducible refine s_eqlL ?_) | (with_reducible refine ifnt ?_) | (with_reducible refine ifnf ?_) | (with_reducible refine x_eqB ?_) | (with_reducible refine x_neB ?_) | (with_reducible refine x_lssL ?_) | (with_reducible refine x_gtrL ?_) | (with_reducible refine x_geqL ?_) | (with_reducible refine s_neqL ?_) | (with_reducible refine St.load h ?_) | (with_reducible refine St.loadS h ?_) | (with_reducible refine a_fld0 ?_) | (with_reducible refine St.store h fun W h => ?_) | (with_reducible refine St.storeS h fun W h => ?_) | (with_reducible refine St.alloc h fun b W h => ?_) | (with_reducible refine St.allocS h fun b W h => ?_) | (with_reducible refine a_nil ?_) | (with_reducible refine ss_load ?_) | (with_reducible refine ss_loadS ?_) | (with_reducible refine ss_eqb ?_)))
    exact k _ h.tail
  · (repeat (first | (with_reducible refine ift ?_) | (with_reducible refine iff' ?_) | (with_reducible refine a_lss ?_) | (with_reducible refine a_leq ?_) | (with_reducible refine a_gtr ?_) | (with_reducible refine a_geq ?_) | (with_reducible refine w_eql ?_) | (with_reducible refine w_neq ?_) | (with_reducible refine s_eql ?_) | (with_reducible refine s_neq ?_) | ((with_reducible refine a_add64 ?h0 ?h1 ?_); (case h0 => omega); (case h1 => omega);  skip) | ((with_reducible refine a_sub64 ?h0 ?h1 ?_); (case h0 => omega); (case h1 => omega);  skip) | ((with_reducible refine a_mul64 ?h0 ?h1 ?_); (case h0 => omega); (case h1 => omega);  skip) | (with_reducible refine a_notd ?_) | (with_reducible refine a_not ?_) | (with_reducible refine a_ext0 ?_) | (with_reducible refine a_ext1 ?_) | (with_reducible refine a_ext2 ?_) | (with_reducible refine x_len ?_) | (with_reducible refine x_lens ?_) | (with_reducible refine x_eqb ?_) | (with_reducible refine x_neb ?_) | (with_reducible refine x_nilP ?_) | (with_reducible refine x_nilPn ?_) | (with_reducible refine x_nilF ?_) | (with_reducible refine x_nilFF ?_) | (with_reducible refine w_eqlL ?_) | (with_reducible refine w_neqL ?_) | (with_reducible refine s_eqlL ?_) | (with_reducible refine ifnt ?_) | (with_reducible refine ifnf ?_) | (with_reducible refine x_eqB ?_) | (with_reducible refine x_neB ?_) | (with_reducible refine x_lssL ?_) | (with_reducible refine x_gtrL ?_) | (with_reducible refine x_geqL ?_) | (with_reducible refine s_neqL ?_) | (with_reducible refine St.load h ?_) | (with_reducible refine St.loadS h ?_) | (with_reducible refine a_fld0 ?_) | (with_reducible refine St.store h fun W h => ?_) | (with_reducible refine St.storeS h fun W h => ?_) | (with_reducible refine St.alloc h fun b W h => ?_) | (with_reducible refine St.allocS h fun b W h => ?_) | (with_reducible refine a_nil ?_) | (with_reducible refine ss_load ?_) | (with_reducible refine ss_loadS ?_) | (with_reducible refine ss_eqb ?_)))
    refine ifd (fun h1 => ?_) fun h1 => ?_
    · (repeat (first | (with_reducible refine ift ?_) | (with_reducible refine iff' ?_) | (with_reducible refine a_lss ?_) | (with_reducible refine a_leq ?_) | (with_reducible refine a_gtr ?_) | (with_reducible refine a_geq ?_) | (with_reducible refine w_eql ?_) | (with_reducible refine w_neq ?_) | (with_reducible refine s_eql ?_) | (with_reducible refine s_neq ?_) | ((with_reducible refine a_add64 ?h0 ?h1 ?_); (case h0 => omega); (case h1 => omega);  skip) | ((with_reducible refine a_sub64 ?h0 ?h1 ?_); (case h0 => omega); (case h1 => omega);  skip) | ((with_reducible refine a_mul64 ?h0 ?h1 ?_); (case h0 => omega); (case h1 => omega);  skip) | (with_reducible refine a_notd ?_) | (with_reducible refine a_not ?_) | (with_reducible refine a_ext0 ?_) | (with_reducible refine a_ext1 ?_) | (with_reducible refine a_ext2 ?_) | (with_reducible refine x_len ?_) | (with_reducible refine x_lens ?_) | (with_reducible refine x_eqb ?_) | (with_reducible refine x_neb ?_) | (with_reducible refine x_nilP ?_) | (with_reducible refine x_nilPn ?_) | (with_reducible refine x_nilF ?_) | (with_reducible refine x_nilFF ?_) | (with_reducible refine w_eqlL ?_) | (with_reducible refine w_neqL ?_) | (with_reducible refine s_eqlL ?_) | (with_reducible refine ifnt ?_) | (with_reducible refine ifnf ?_) | (with_reducible refine x_eqB ?_) | (with_reducible refine x_neB ?_) | (with_reducible refine x_lssL ?_) | (with_reducible refine x_gtrL ?_) | (with_reducible refine x_geqL ?_) | (with_reducible refine s_neqL ?_) | (with_reducible refine St.load h ?_) | (with_reducible refine St.loadS h ?_) | (with_reducible refine a_fld0 ?_) | (with_reducible refine St.store h fun W h => ?_) | (with_reducible refine St.storeS h fun W h => ?_) | (with_reducible refine St.alloc h fun b W h => ?_) | (with_reducible refine St.allocS h fun b W h => ?_) | (with_reducible refine a_nil ?_) | (with_reducible refine ss_load ?_) | (with_reducible refine ss_loadS ?_) | (with_reducible refine ss_eqb ?_)))
      refine ifd (fun h2 => ?_) fun h2 => ?_
      · rw [if_pos ⟨h1, h2⟩] at k
        exact k _ h.tail
      · exact ⟨rfl, fun hx => h2 hx.2, h⟩
    · exact ⟨rfl, fun hx => h1 hx.1, h⟩
/-- space -/
theorem space_spec [i1 : Has l b (Xo r (vo, vp, vx, vb)) R] [i2 : Has R vp (FrS pv) R1] [i3 : Has R1 PoolK.b (Km ms) R2] (h : St w0 G l W) (hpv : pv.map Prod.fst = r.op) (hl : pv.length ≤ 1000000) (hms : ∀ q ∈ pv, (q.2, q.1.spaces) ∈ ms) (hf : (mb, f.spaces) ∈ ms)
    (k : ∀ W', St w0 G (Ky b (Xo (XRd.space f pre r).2 (vo, vp, vx, vb)) :: Ky vp (FrS pv) :: Ky PoolK.b (Km ms) :: R2) W' → RR (strV (XRd.space f pre r).1) W') : CallF Tryz.prog 109 #[.pointer (some ⟨b, 0, none⟩), .agg (fcell (f, mb)).toArray, strV pre] W RR := by
  refine sh109_calls ?_
  unfold sh109
  replace h : St w0 G (Ky b (Xo r (vo, vp, vx, vb)) :: Ky vp (FrS pv) :: Ky PoolK.b (Km ms) :: R2) W := h.to
  unfold XRd.space at k
  have ovp : Cel1 vp := .of_own (h.ow (v := vp))
  refine h.boxS fun t4 W h => ?_
  refine h.boxV fun t5 W h => ?_
  refine h.alloc fun t6 W h => ?_
  refine h.load ?_
  refine w_eqlL (ifd (fun h1 => ?_) fun h1 => ?_)
  · rw [if_pos (show pre = XRd.own from h1)] at k
    refine h.store fun W h => ?_
    refine h.load ?_
    exact k _ h.to
  rw [if_neg (show ¬ pre = XRd.own from h1)] at k
  refine a_fld0 (h.load ?_)
  refine h.load ?_
  refine h.kmLook (k := PoolK.b) hf ?_
  refine a_ext0 (a_ext1 ?_)
  unfold gt
  cases hx : getS pre f.spaces with
  | some s =>
    rw [show XRd.lookS pre f.spaces = some s from hx] at k
    refine ift ?_
    refine h.store fun W h => ?_
    refine h.load ?_
    exact k _ h.to
  | none =>
    rw [show XRd.lookS pre f.spaces = none from hx] at k
    refine iff' ?_
    refine a_nil (a_fld0 (h.load ?_))
    refine sh132_calls ?_
    unfold sh132
    refine h.boxV fun bc W h => ?_
    refine v_func ?_
    have hI : Itr Tryz.prog w0 G (backFn bc) (backF pv) (ItF bc vp pv) := backF_itr hl
    replace h := h.two (k := backFn bc) (a := bc) (b := vp)
    have hop : r.op.reverse = pv.reverse.map Prod.fst := by rw [← hpv, List.map_reverse]
    refine rngI (C := fun i => As.all (XRd.near pre ((pv.reverse.take i).map Prod.fst) = none) [Ky t5 (Ob (.cells [strV pre].toArray 9 (0, 0))), Ky t6 (Ob (.cells [strV []].toArray 9 (0, 0))), Ky PoolK.b (Km ms)])
      (fun c i => As.ex fun s : Txt => As.all (c = .ret ∧ XRd.near pre r.op.reverse = some s) [Ky t5 (Ob (.cells [strV pre].toArray 9 (0, 0))), Ky t6 (Ob (.cells [strV s].toArray 9 (0, 0))), Ky PoolK.b (Km ms)]) hI (fun x hx => ?_)
      (l := Ky t4 (Ob (.cells (fcell (f, mb)).toArray 124 (0, 0))) :: Ky b (Xo r (vo, vp, vx, vb)) :: R2) ?_ ?_ ?_ ?_
    · obtain ⟨j, hj⟩ := List.getElem?_of_mem hx
      obtain ⟨p, _, rfl⟩ := backF_rev hj
      rfl
    · exact St.shut3 rfl h.to
    · intro i x hxi ll rec I' W kn kst h hn' hk
      obtain ⟨p, hp, rfl⟩ := backF_rev hxi
      refine app2 ?_
      refine h.allocS fun t10 W h => ?_
      refine h.storeS (cs' := fcell p) fun W h => ?_
      refine ⟨h.ob (b := ll), ?_⟩
      replace h := h.putO (b := ll) (o := .loop (rec .ready none)) (.loop (rec .busy none))
      replace h : St w0 G (Ky i (fun i => As.all (XRd.near pre ((pv.reverse.take i).map Prod.fst) = none) [Ky t5 (Ob (.cells [strV pre].toArray 9 (0, 0))), Ky t6 (Ob (.cells [strV []].toArray 9 (0, 0))), Ky PoolK.b (Km ms)]) :: Ky ll (Ob (.loop (rec .busy none))) :: Ky t10 (Ob (.cells (fcell p).toArray 124 (0, 0))) :: I') _ := h.to
      obtain ⟨hnear, h⟩ := St.open3 h
      refine app3 ?_
      refine a_fld0 (h.load ?_)
      refine h.load ?_
      have hpm : (p.2, p.1.spaces) ∈ ms := hms p (List.mem_reverse.1 (List.mem_of_getElem? hp))
      refine h.kmLook (k := PoolK.b) hpm ?_
      refine a_ext0 (a_ext1 ?_)
      unfold gt
      have htk : (pv.reverse.take (i + 1)).map Prod.fst = (pv.reverse.take i).map Prod.fst ++ [p.1] := by rw [List.take_add_one, hp]; simp
      cases hy : getS pre p.1.spaces with
      | some s =>
        dsimp only [Option.getD, Option.isSome]
        refine ift ?_
        refine h.store fun W h => ?_
        refine hk .ret W (St.swap (St.shutE s (St.shut3 ⟨rfl, ?_⟩ h.to)))
        have e1 : pv.reverse.map Prod.fst = (pv.reverse.take (i + 1)).map Prod.fst ++ (pv.reverse.drop (i + 1)).map Prod.fst := by rw [← List.map_append, List.take_append_drop]
        rw [hop, e1, htk, XRd.near_app, XRd.near_app, hnear, XRd.near_one]
        simp only
        rw [show XRd.lookS pre p.1.spaces = some s from hy]
      | none =>
        refine iff' ?_
        refine hn' _ (St.swap (St.shut3 ?_ h.to))
        show XRd.near pre ((pv.reverse.take (i + 1)).map Prod.fst) = none
        rw [htk, XRd.near_app, hnear, XRd.near_one]
        exact hy
    · intro DD W h
      replace h : St w0 G (Ky (backF pv).length (fun i => As.all (XRd.near pre ((pv.reverse.take i).map Prod.fst) = none) [Ky t5 (Ob (.cells [strV pre].toArray 9 (0, 0))), Ky t6 (Ob (.cells [strV []].toArray 9 (0, 0))), Ky PoolK.b (Km ms)]) :: Ky DD (Ob (.deferred (some []))) :: Ky (backFn bc) (ItF bc vp pv) :: Ky t4 (Ob (.cells (fcell (f, mb)).toArray 124 (0, 0))) :: Ky b (Xo r (vo, vp, vx, vb)) :: R2) W := h.swap
      obtain ⟨hnear, h⟩ := St.open3 h
      rw [backF_len, List.take_of_length_le (by simp), ← hop] at hnear
      rw [hnear] at k
      replace h := h.untwo (k := backFn bc)
      refine jni (fun vs W' => vs = [.pointer (some ⟨t6, 0, none⟩)] ∧ St w0 G (Ky b (Xo (r.failIf (decide (pre ≠ [])) 4) (vo, vp, vx, vb)) :: Ky t6 (Ob (.cells [strV []].toArray 9 (0, 0))) :: Ky DD (Ob (.deferred (some []))) :: Ky vp (FrS pv) :: Ky PoolK.b (Km ms) :: R2) W') ?_ ?_
      · rintro vs W _ ⟨rfl, h⟩
        refine app1 ?_
        refine h.store fun W h => ?_
        refine ⟨h.ob (b := DD), ?_⟩
        replace h := h.putO (b := DD) (o := .deferred (some [])) (.deferred none)
        refine h.load ?_
        exact k _ h.to
      · refine h.load ?_
        refine w_neqL (ifd (fun hne => ?_) fun hne => ?_)
        · refine fail_spec (r := r) (c := (vo, vp, vx, vb)) h fun W h => ⟨rfl, rfl, ?_⟩
          rw [decide_eq_true hne]
          show St w0 G (Ky b (Xo (r.fail 4) (vo, vp, vx, vb)) :: _) _
          exact h.to
        · refine ⟨rfl, rfl, ?_⟩
          rw [decide_eq_false hne]
          show St w0 G (Ky b (Xo r (vo, vp, vx, vb)) :: _) _
          exact h.to
    · intro DD c i W hi h
      replace h : St w0 G (As.ex (fun s : Txt => As.all (c = .ret ∧ XRd.near pre r.op.reverse = some s) [Ky t5 (Ob (.cells [strV pre].toArray 9 (0, 0))), Ky t6 (Ob (.cells [strV s].toArray 9 (0, 0))), Ky PoolK.b (Km ms)]) :: Ky DD (Ob (.deferred (some []))) :: Ky (backFn bc) (ItF bc vp pv) :: Ky t4 (Ob (.cells (fcell (f, mb)).toArray 124 (0, 0))) :: Ky b (Xo r (vo, vp, vx, vb)) :: R2) W := h.swap
      obtain ⟨s, h⟩ := St.openE h
      obtain ⟨⟨hcc, hnear⟩, h2⟩ := St.open3 h
      clear h
      subst hcc
      have h := h2
      clear h2
      rw [hnear] at k
      replace h := h.untwo (k := backFn bc)
      refine ⟨h.ob (b := DD), ?_⟩
      replace h := h.putO (b := DD) (o := .deferred (some [])) (.deferred none)
      refine h.load ?_
      exact k _ h.to
end
end Go.Proofs.YtlflpbflpcmckaaGreatDoor
namespace Go.Proofs.YtlflpbflpcmckaaGreatDoor
open Go Go.Ez Go.RowKit Go.Lib
set_option linter.unusedSimpArgs false
set_option linter.unusedVariables false
abbrev atc (a : XAt) : List Value := [strV a.space, strV a.name, strV a.value]
theorem atc_len (a : XAt) : (atc a).length = 3 := rfl
abbrev tcell (p : XTk × Value) : List Value := [.int .i64 p.1.kind, strV p.1.space, strV p.1.name, strV p.1.text, p.2]
theorem tcell_len (p : XTk × Value) : (tcell p).length = 5 := rfl
abbrev TkS (ov : List (XTk × Value)) : Value → As := Ow 88 5 ov.length (rcells tcell ov)
abbrev AtS (o : List XAt) : Value → As := Ow 158 3 o.length (rcells atc o)
abbrev KqA (zs : List (Value × List XAt)) : PoolK → As := Kq atc 158 3 zs
/-- what a reader's memory is made of -/
structure XMem where
  vo : Value
  vp : Value
  vb : Value
  u : Bool
  ov : List (XTk × Value)
  pv : List (XFr × Nat)
  zs : List (Value × List XAt)
  ms : List (Nat × Fm)
def AtIn (zs : List (Value × List XAt)) (v : Value) (o : List XAt) : Prop := (v, o) ∈ zs ∨ (v = .slice none 0 0 ∧ o = [])
theorem AtIn.sub {zs zs' : List (Value × List XAt)} {v : Value} {o : List XAt} (h : AtIn zs v o) (hz : ∀ z ∈ zs, z ∈ zs') : AtIn zs' v o := h.imp (hz _) id
structure XFit (r : XRd) (m : XMem) : Prop where
  ov : m.ov.map Prod.fst = r.out
  oz : ∀ p ∈ m.ov, AtIn m.zs p.2 p.1.attrs ∧ p.2.oneCell' = true
  pv : m.pv.map Prod.fst = r.op
  pm : ∀ q ∈ m.pv, (q.2, q.1.spaces) ∈ m.ms
abbrev xc (b : Nat) (m : XMem) : XC := (m.vo, m.vp, xp b m.u, m.vb)
abbrev XLs (r : XRd) (b : Nat) (m : XMem) (R : List As) : List As := Ky b (Xo r (xc b m)) :: Ky m.vo (TkS m.ov) :: Ky m.vp (FrS m.pv) :: Ky m.vb (Ow 5 1 r.run.length (bytesV r.run)) :: Ky PoolK.a (KqA m.zs) :: Ky PoolK.b (Km m.ms) :: R
theorem XFit.same {r r' : XRd} {m : XMem} (h : XFit r m) (h1 : r'.out = r.out) (h2 : r'.op = r.op) : XFit r' m := ⟨h.ov.trans h1.symm, h.oz, h.pv.trans h2.symm, h.pm⟩
section
variable {P : Program} {S : World → Prop} {K : Value → Prop}
theorem s_lds {b n : Nat} {t : TypeId} {cs zs : List Value} [T : TyS P t n zs] [l1 : Len cs n] (hS : ∀ w, S w → Rec w b t cs) (k : K (.agg cs.toArray)) : RunS P S (Instr.loadAt t (.pointer (some ⟨b, 0, none⟩))) K :=
  s_of (fun w hw => x_lds (cs := cs) l1.eq (fun j u hu => by rw [Nat.zero_add]; exact (hS w hw).cell hu) rfl) k
end
section
variable {w0 W W' : World} {G : Nat → Prop} {l R R1 R2 : List As} {RR : Value → World → Prop} {t s pre : Txt} {b g n mb : Nat} {r : XRd} {v : Value} {f : XFr} {m : XMem} {L : List XPr}
theorem xo_rec {q : XRd} {c : XC} (h1 : q.s = r.s) (h2 : q.at_ = r.at_) (hr : Rec W b 83 (xcells q c)) : Rec W b 83 [strV r.s, nV .i64 r.at_, .int .i64 q.e, c.1, c.2.1, c.2.2.1, c.2.2.2] := by
  rw [← h1, ← h2]; exact hr
theorem space_keep (f : XFr) (pre : Txt) (r : XRd) : (XRd.space f pre r).2.s = r.s ∧ (XRd.space f pre r).2.at_ = r.at_ ∧ (XRd.space f pre r).2.out = r.out ∧ (XRd.space f pre r).2.op = r.op ∧ (XRd.space f pre r).2.run = r.run := by
  rw [XRd.space_eq]
  split
  · exact ⟨rfl, rfl, rfl, rfl, rfl⟩
  · unfold XRd.fail; split <;> exact ⟨rfl, rfl, rfl, rfl, rfl⟩
/-- close -/
theorem close_spec (h : St w0 G (XLs r b m R) W) (hm : XFit r m) (hl : m.pv.length ≤ 1000000) (hlo : m.ov.length ≤ 1000000) (hf : (mb, f.spaces) ∈ m.ms)
    (k : ∀ m' W', XFit (XRd.close f r) m' → m'.pv = m.pv → m'.ms = m.ms → m'.ov.length = m.ov.length + 1 → St w0 G (XLs (XRd.close f r) b m' R) W' → RR (.tuple #[]) W') : CallF Tryz.prog 78 #[.pointer (some ⟨b, 0, none⟩), .agg (fcell (f, mb)).toArray] W RR := by
  refine sh78_calls ?_
  unfold sh78
  obtain ⟨vo, vp, vb, u, ov, pv, zs, ms⟩ := m
  simp only at *
  have ovo : Cel1 vo := .of_own (h.ow (v := vo))
  have ovp : Cel1 vp := .of_own (h.ow (v := vp))
  have ovb : Cel1 vb := .of_own (h.ow (v := vb))
  refine h.boxS fun t3 W h => ?_
  refine ⟨fun W => (∃ e : Int, Rec W b 83 [strV r.s, nV .i64 r.at_, .int .i64 e, vo, vp, xp b u, vb]) ∧ Rec W t3 124 (fcell (f, mb)), ⟨⟨_, h.drew.rc⟩, h.drew.rc⟩, ?_⟩
  replace h := h.drew
  refine a_nil (a_fld0 (s_of (v := vo) (fun w hw => ?_) ?_))
  · obtain ⟨⟨e, he⟩, _⟩ := hw
    exact w_recF Tryz.isAgg54 he rfl rfl
  refine s_lds (cs := fcell (f, mb)) (fun w hw => hw.2) ?_
  refine a_fld0 (a_fld (o := 0) ?_)
  dsimp only [Nat.reduceAdd]
  refine s_ld (t := 124) (cs := fcell (f, mb)) (fun w hw => hw.2) rfl ?_
  refine a_fld0 (a_fld (o := 0) ?_)
  dsimp only [Nat.reduceAdd]
  refine s_ld (t := 124) (cs := fcell (f, mb)) (fun w hw => hw.2) rfl ?_
  refine space_spec (r := r) (f := f) (mb := mb) (pre := f.pre) (pv := pv) (ms := ms) (vo := vo) (vp := vp) (vx := xp b u) (vb := vb) h hm.pv hl hm.pm hf fun W h => ?_
  have hcl : XRd.close f r = { (XRd.space f f.pre r).2 with out := (XRd.space f f.pre r).2.out ++ [⟨2, (XRd.space f f.pre r).1, f.name, [], []⟩] } := rfl
  have hsp := space_keep f f.pre r
  obtain ⟨hs1, hs2, hs3, hs4, hs5⟩ := hsp
  rw [hcl] at k
  generalize XRd.space f f.pre r = q at *
  obtain ⟨q1, q2⟩ := q
  simp only at *
  refine ⟨⟨⟨q2.e, xo_rec hs1 hs2 (h.rc (b := b) (t := 83) (cs := xcells q2 (vo, vp, xp b u, vb)))⟩, h.rc⟩, ?_⟩
  refine x_bld (cells := (tcell (⟨2, q1, f.name, [], []⟩, .slice none 0 0)).toArray) rfl ?_
  refine ⟨⟨⟨q2.e, xo_rec hs1 hs2 (h.rc (b := b) (t := 83) (cs := xcells q2 (vo, vp, xp b u, vb)))⟩, h.rc⟩, ?_⟩
  refine h.lit fun uu W ou h => ?_
  refine ⟨⟨⟨q2.e, xo_rec hs1 hs2 (h.rc (b := b) (t := 83) (cs := xcells q2 (vo, vp, xp b u, vb)))⟩, h.rc⟩, ?_⟩
  refine h.app (v := vo) (h.osl (v := uu)) (by intro a ha; simp only [List.mem_cons, List.not_mem_nil, or_false] at ha; rcases ha with rfl | rfl | rfl | rfl | rfl <;> rfl) (by unfold maxLen; omega) (by omega) fun vo' W o' h _ => ?_
  refine a_nil (a_fld0 (h.store fun W h => ?_))
  have e1 : ov.length + 1 = (ov ++ [((⟨2, q1, f.name, [], []⟩ : XTk), (.slice none 0 0 : Value))]).length := by simp
  have e2 : rcells tcell ov ++ tcell (⟨2, q1, f.name, [], []⟩, .slice none 0 0) = rcells tcell (ov ++ [((⟨2, q1, f.name, [], []⟩ : XTk), (.slice none 0 0 : Value))]) := by rw [rc_append, rc_single]
  refine k ⟨vo', vp, vb, u, ov ++ [((⟨2, q1, f.name, [], []⟩ : XTk), (.slice none 0 0 : Value))], pv, zs, ms⟩ W ⟨?_, ?_, ?_, hm.pm⟩ rfl rfl (by simp) ?_
  · show (ov ++ _).map Prod.fst = q2.out ++ _
    rw [List.map_append, hs3, ← hm.ov]; rfl
  · intro p hp
    rcases List.mem_append.1 hp with hp | hp
    · exact hm.oz p hp
    · rw [List.mem_singleton.1 hp]
      exact ⟨.inr ⟨rfl, rfl⟩, rfl⟩
  · show pv.map Prod.fst = q2.op
    rw [hs4]; exact hm.pv
  · replace h : St w0 G (Ky b (Xo q2 (vo', vp, xp b u, vb)) :: Ky vo' (Ow 88 5 (ov.length + 1) (rcells tcell ov ++ tcell (⟨2, q1, f.name, [], []⟩, .slice none 0 0))) :: _) W := h
    rw [e2, e1] at h
    show St w0 G (Ky b (Xo q2 (vo', vp, xp b u, vb)) :: Ky vo' (TkS (ov ++ [((⟨2, q1, f.name, [], []⟩ : XTk), (.slice none 0 0 : Value))])) :: Ky vp (FrS pv) :: Ky vb (Ow 5 1 q2.run.length (bytesV q2.run)) :: Ky PoolK.a (KqA zs) :: Ky PoolK.b (Km ms) :: R) W
    rw [hs5]
    exact h.to
/-- flush -/
theorem flush_spec (h : St w0 G (XLs r b m R) W) (hm : XFit r m) (hlo : m.ov.length ≤ 1000000) (hr : r.run.length ≤ 100000000000)
    (k : ∀ m' W', XFit r.flush m' → m'.pv = m.pv → m'.ms = m.ms → m'.ov.length ≤ m.ov.length + 1 → St w0 G (XLs r.flush b m' R) W' → RR (.tuple #[]) W') : CallF Tryz.prog 82 #[.pointer (some ⟨b, 0, none⟩)] W RR := by
  refine sh82_calls ?_
  unfold sh82
  obtain ⟨vo, vp, vb, u, ov, pv, zs, ms⟩ := m
  simp only at *
  have ovo : Cel1 vo := .of_own (h.ow (v := vo))
  have ovp : Cel1 vp := .of_own (h.ow (v := vp))
  have ovb : Cel1 vb := .of_own (h.ow (v := vb))
  refine a_nil (a_fld0 ?_)
  refine xbstr_spec (r := r) (vo := vo) (vp := vp) (u := u) (v := vb) (t := r.run) h hr fun W h => ?_
  refine a_nil (a_fld0 ?_)
  refine xreset_spec (r := r) (vo := vo) (vp := vp) (u := u) (v := vb) h fun W h => ?_
  replace h : St w0 G (Ky (.slice none 0 0) (Ow 5 1 0 []) :: Ky b (Xo r (vo, vp, xp b false, .slice none 0 0)) :: Ky vo (TkS ov) :: Ky vp (FrS pv) :: Ky PoolK.a (KqA zs) :: Ky PoolK.b (Km ms) :: R) W := h.nilOw
  unfold XRd.flush at k
  refine x_len (a_gtr (ifd (fun hc => ?_) fun hc => ?_))
  · rw [if_pos (by omega)] at k
    refine fail_spec (r := r) (c := (vo, vp, xp b false, .slice none 0 0)) h fun W h => ?_
    have hx : (({ r with run := [] } : XRd).fail 3).e = (r.fail 3).e ∧ (({ r with run := [] } : XRd).fail 3).at_ = (r.fail 3).at_ ∧ (({ r with run := [] } : XRd).fail 3).s = (r.fail 3).s ∧ (({ r with run := [] } : XRd).fail 3).run = [] ∧ (({ r with run := [] } : XRd).fail 3).out = r.out ∧ (({ r with run := [] } : XRd).fail 3).op = r.op := by
      unfold XRd.fail; by_cases he : r.e = 0 <;> simp [he]
    obtain ⟨x1, x2, x3, x4, x5, x6⟩ := hx
    refine k ⟨vo, vp, .slice none 0 0, false, ov, pv, zs, ms⟩ W ⟨hm.ov.trans x5.symm, hm.oz, hm.pv.trans x6.symm, hm.pm⟩ rfl rfl (by simp) ?_
    show St w0 G (Ky b (Xo (({ r with run := [] } : XRd).fail 3) (vo, vp, xp b false, .slice none 0 0)) :: Ky vo (TkS ov) :: Ky vp (FrS pv) :: Ky (.slice none 0 0) (Ow 5 1 (({ r with run := [] } : XRd).fail 3).run.length (bytesV (({ r with run := [] } : XRd).fail 3).run)) :: Ky PoolK.a (KqA zs) :: Ky PoolK.b (Km ms) :: R) W
    rw [x4]
    have : Xo (({ r with run := [] } : XRd).fail 3) (vo, vp, xp b false, .slice none 0 0) = Xo (r.fail 3) (vo, vp, xp b false, .slice none 0 0) := by unfold Xo; simp only [xcells, x1, x2, x3]
    rw [this]
    replace h : St w0 G (Ky b (Xo (r.fail 3) (vo, vp, xp b false, .slice none 0 0)) :: Ky vo (TkS ov) :: Ky vp (FrS pv) :: Ky (.slice none 0 0) (Ow 5 1 0 []) :: Ky PoolK.a (KqA zs) :: Ky PoolK.b (Km ms) :: R) W := h.to
    exact h
  · rw [if_neg (by omega)] at k
    refine w_neqL (ifd (fun hne => ?_) fun hne => ?_)
    · rw [if_pos hne] at k
      refine a_nil (a_fld0 (h.load ?_))
      refine x_bld (cells := (tcell (⟨3, [], [], r.run, []⟩, .slice none 0 0)).toArray) rfl ?_
      refine h.lit fun uu W ou h => ?_
      refine h.app (v := vo) (h.osl (v := uu)) (by intro a ha; simp only [List.mem_cons, List.not_mem_nil, or_false] at ha; rcases ha with rfl | rfl | rfl | rfl | rfl <;> rfl) (by unfold maxLen; omega) (by omega) fun vo' W o' h _ => ?_
      refine a_nil (a_fld0 (h.store fun W h => ?_))
      have e1 : ov.length + 1 = (ov ++ [((⟨3, [], [], r.run, []⟩ : XTk), (.slice none 0 0 : Value))]).length := by simp
      have e2 : rcells tcell ov ++ tcell (⟨3, [], [], r.run, []⟩, .slice none 0 0) = rcells tcell (ov ++ [((⟨3, [], [], r.run, []⟩ : XTk), (.slice none 0 0 : Value))]) := by rw [rc_append, rc_single]
      refine k ⟨vo', vp, .slice none 0 0, false, ov ++ [((⟨3, [], [], r.run, []⟩ : XTk), (.slice none 0 0 : Value))], pv, zs, ms⟩ W ⟨?_, ?_, hm.pv, hm.pm⟩ rfl rfl (by simp) ?_
      · show (ov ++ _).map Prod.fst = r.out ++ _
        rw [List.map_append, ← hm.ov]; rfl
      · intro p hp
        rcases List.mem_append.1 hp with hp | hp
        · exact hm.oz p hp
        · rw [List.mem_singleton.1 hp]
          exact ⟨.inr ⟨rfl, rfl⟩, rfl⟩
      · replace h : St w0 G (Ky b (Xo r (vo', vp, xp b false, .slice none 0 0)) :: Ky vo' (Ow 88 5 (ov.length + 1) (rcells tcell ov ++ tcell (⟨3, [], [], r.run, []⟩, .slice none 0 0))) :: _) W := h
        rw [e2, e1] at h
        show St w0 G (Ky b (Xo r (vo', vp, xp b false, .slice none 0 0)) :: Ky vo' (TkS (ov ++ [((⟨3, [], [], r.run, []⟩ : XTk), (.slice none 0 0 : Value))])) :: Ky vp (FrS pv) :: Ky (.slice none 0 0) (Ow 5 1 0 []) :: Ky PoolK.a (KqA zs) :: Ky PoolK.b (Km ms) :: R) W
        exact h.to
    · rw [if_neg hne] at k
      refine k ⟨vo, vp, .slice none 0 0, false, ov, pv, zs, ms⟩ W ⟨hm.ov, hm.oz, hm.pv, hm.pm⟩ rfl rfl (by simp) ?_
      show St w0 G (Ky b (Xo r (vo, vp, xp b false, .slice none 0 0)) :: Ky vo (TkS ov) :: Ky vp (FrS pv) :: Ky (.slice none 0 0) (Ow 5 1 0 []) :: Ky PoolK.a (KqA zs) :: Ky PoolK.b (Km ms) :: R) W
      exact h.to
end
end Go.Proofs.YtlflpbflpcmckaaGreatDoor
