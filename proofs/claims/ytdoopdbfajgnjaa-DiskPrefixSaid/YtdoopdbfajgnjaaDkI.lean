/-
  FILES THAT FALL: DiskMoves: it returns true.
-/
import Derived.Test.YtdoopdbfajgnjaaDkH
namespace Go.Ez
open Go Go.Proofs Go.RowKit
set_option linter.unusedSimpArgs false
set_option linter.unusedVariables false
theorem getK_some {k : Txt} {m : Fm} (h : getK k m ≠ none) : getK k m = some (gt k m) := by
  obtain ⟨v, hv⟩ := Option.ne_none_iff_exists'.1 h
  unfold gt
  rw [hv]; rfl
theorem rename_bad {d : Dd} (h : d.Q) {s t : Txt} (hr : (d.renameP s t).2 ≠ 0) : (d.renameP s t).1.now = d.now ∧ ((d.renameP s t).2 = 11 ∨ (d.renameP s t).2 = 6 ∧ getK s d.now = none) := by
  rw [renameP_Q h] at hr ⊢
  split
  · rename_i h1
    rw [if_pos h1] at hr
    split
    · rename_i h2
      exact ⟨rfl, .inr ⟨rfl, h2⟩⟩
    · rename_i h2
      rw [if_neg h2] at hr
      split at hr <;> exact absurd rfl hr
  · exact ⟨rfl, .inl rfl⟩
theorem rename_good {d : Dd} (h : d.Q) {s t : Txt} (hr : (d.renameP s t).2 = 0) : okN t = true ∧ getK s d.now ≠ none ∧ ∀ k, getK k (d.renameP s t).1.now = if k = t then some (gt s d.now) else if k = s then none else getK k d.now := by
  have hs := h.v.now.srt
  rw [renameP_Q h] at hr ⊢
  split
  · rename_i h1
    rw [if_pos h1] at hr
    split
    · rename_i h2
      rw [if_pos h2] at hr
      cases hr
    · rename_i h2
      refine ⟨h1.2, h2, fun k => ?_⟩
      split
      · rename_i h3
        subst h3
        show getK k d.now = _
        by_cases hk : k = s
        · subst hk; rw [if_pos rfl]; exact getK_some h2
        · rw [if_neg hk, if_neg hk]
      · rw [does_now]
        show getK k (putK t (gt s d.now) (delK s d.now)) = _
        rw [get_put (srt_del hs), get_del hs]
  · rename_i h1
    rw [if_neg h1] at hr
    cases hr
theorem delete_good {d : Dd} (h : d.Q) {s : Txt} (h1 : okN s = true) (h2 : getK s d.now ≠ none) : (d.deleteP s).2 = 0 ∧ getK s (d.deleteP s).1.now = none := by
  rw [deleteP_Q h, if_pos h1, if_neg h2]
  refine ⟨rfl, ?_⟩
  rw [does_now]
  show getK s (delK s d.now) = none
  rw [get_del h.v.now.srt, if_pos rfl]
theorem delete_none {d : Dd} (h : d.Q) {s : Txt} (h1 : okN s = true) (h2 : getK s d.now = none) : (d.deleteP s).2 = 6 := by
  rw [deleteP_Q h, if_pos h1, if_pos h2]
end Go.Ez
namespace Go.Proofs.Ytdoopdbfajgnjaa
open Go Go.Ez Go.RowKit
set_option linter.unusedSimpArgs false
set_option linter.unusedVariables false
section
variable {W : World} {RR : Value → World → Prop}
/-- DiskMoves -/
theorem moves_spec {oa : List OpM} {va : Value} {s t : Txt} (ha : Sl W 7 va oa.length (rcells opC oa)) (hfa : ∀ o ∈ oa, OpF W o)
    (k : ∀ W', Below W.heap.size W W' → RR (.bool true) W') : CallF Try.prog 4 #[va, strV s, strV t] W RR := by
  refine sh4_calls ?_
  unfold sh4
  have out : ∀ {W1 : World}, Below W.heap.size W W1 → CallF Try.prog 8 #[] W1 RR := fun hb1 => first_spec fun W2 hb2 => k W2 (Below.next hb1 hb2)
  refine first_spec fun W1 hb1 => ?_
  (repeat (first | (with_reducible refine ift ?_) | (with_reducible refine iff' ?_) | (with_reducible refine a_lss ?_) | (with_reducible refine a_leq ?_) | (with_reducible refine a_gtr ?_) | (with_reducible refine a_geq ?_) | (with_reducible refine w_eql ?_) | (with_reducible refine w_neq ?_) | (with_reducible refine s_eql ?_) | (with_reducible refine s_neq ?_) | ((with_reducible refine a_add64 ?h0 ?h1 ?_); (case h0 => omega); (case h1 => omega);  skip) | ((with_reducible refine a_sub64 ?h0 ?h1 ?_); (case h0 => omega); (case h1 => omega);  skip) | ((with_reducible refine a_mul64 ?h0 ?h1 ?_); (case h0 => omega); (case h1 => omega);  skip) | (with_reducible refine a_notd ?_) | (with_reducible refine a_not ?_) | (with_reducible refine a_ext0 ?_) | (with_reducible refine a_ext1 ?_) | (with_reducible refine a_ext2 ?_) | (with_reducible refine x_len ?_) | (with_reducible refine x_lens ?_) | (with_reducible refine x_eqb ?_) | (with_reducible refine x_neb ?_) | (with_reducible refine x_nilP ?_) | (with_reducible refine x_nilPn ?_) | (with_reducible refine x_nilF ?_) | (with_reducible refine x_nilFF ?_) | (with_reducible refine w_eqlL ?_) | (with_reducible refine w_neqL ?_) | (with_reducible refine s_eqlL ?_) | (with_reducible refine ifnt ?_) | (with_reducible refine ifnf ?_) | (with_reducible refine x_eqB ?_) | (with_reducible refine x_neB ?_) | (with_reducible refine x_lssL ?_) | (with_reducible refine x_gtrL ?_) | (with_reducible refine x_geqL ?_) | (with_reducible refine s_neqL ?_) | (with_reducible refine St.load h ?_) | (with_reducible refine St.loadS h ?_) | (with_reducible refine a_fld0 ?_) | (with_reducible refine St.store h fun W h => ?_) | (with_reducible refine St.storeS h fun W h => ?_) | (with_reducible refine St.alloc h fun b W h => ?_) | (with_reducible refine St.allocS h fun b W h => ?_) | (with_reducible refine a_nil ?_) | (with_reducible refine ss_load ?_) | (with_reducible refine ss_loadS ?_) | (with_reducible refine ss_eqb ?_)))
  refine few_spec (ha.below hb1) (fun o ho => (hfa o ho).below hb1) fun b0 hs1 => ?_
  refine a_not (ifnb (fun hx => out hb1) fun hx => ?_)
  obtain ⟨hla, hsa⟩ := hs1 hx
  refine x_lenS (ha.below hb1) (a_gtr (ifd (fun hx => out hb1) fun hx => ?_))
  refine x_len (a_gtr (ifd (fun hx => out hb1) fun hls => ?_))
  refine x_len (a_gtr (ifd (fun hx => out hb1) fun hlt => ?_))
  have h := ((St.start W).ext hb1).plNil .a
  refine newd_spec [] h (fun hx => absurd ⟨by decide, by decide⟩ hx) fun h0 h1 bd W2 h => ?_
  refine a_ext0 (a_ext1 ?_)
  (repeat (first | (with_reducible refine ift ?_) | (with_reducible refine iff' ?_) | (with_reducible refine a_lss ?_) | (with_reducible refine a_leq ?_) | (with_reducible refine a_gtr ?_) | (with_reducible refine a_geq ?_) | (with_reducible refine w_eql ?_) | (with_reducible refine w_neq ?_) | (with_reducible refine s_eql ?_) | (with_reducible refine s_neq ?_) | ((with_reducible refine a_add64 ?h0 ?h1 ?_); (case h0 => omega); (case h1 => omega);  skip) | ((with_reducible refine a_sub64 ?h0 ?h1 ?_); (case h0 => omega); (case h1 => omega);  skip) | ((with_reducible refine a_mul64 ?h0 ?h1 ?_); (case h0 => omega); (case h1 => omega);  skip) | (with_reducible refine a_notd ?_) | (with_reducible refine a_not ?_) | (with_reducible refine a_ext0 ?_) | (with_reducible refine a_ext1 ?_) | (with_reducible refine a_ext2 ?_) | (with_reducible refine x_len ?_) | (with_reducible refine x_lens ?_) | (with_reducible refine x_eqb ?_) | (with_reducible refine x_neb ?_) | (with_reducible refine x_nilP ?_) | (with_reducible refine x_nilPn ?_) | (with_reducible refine x_nilF ?_) | (with_reducible refine x_nilFF ?_) | (with_reducible refine w_eqlL ?_) | (with_reducible refine w_neqL ?_) | (with_reducible refine s_eqlL ?_) | (with_reducible refine ifnt ?_) | (with_reducible refine ifnf ?_) | (with_reducible refine x_eqB ?_) | (with_reducible refine x_neB ?_) | (with_reducible refine x_lssL ?_) | (with_reducible refine x_gtrL ?_) | (with_reducible refine x_geqL ?_) | (with_reducible refine s_neqL ?_) | (with_reducible refine St.load h ?_) | (with_reducible refine St.loadS h ?_) | (with_reducible refine a_fld0 ?_) | (with_reducible refine St.store h fun W h => ?_) | (with_reducible refine St.storeS h fun W h => ?_) | (with_reducible refine St.alloc h fun b W h => ?_) | (with_reducible refine St.allocS h fun b W h => ?_) | (with_reducible refine a_nil ?_) | (with_reducible refine ss_load ?_) | (with_reducible refine ss_loadS ?_) | (with_reducible refine ss_eqb ?_)))
  refine iff' ?_
  (repeat (first | (with_reducible refine ift ?_) | (with_reducible refine iff' ?_) | (with_reducible refine a_lss ?_) | (with_reducible refine a_leq ?_) | (with_reducible refine a_gtr ?_) | (with_reducible refine a_geq ?_) | (with_reducible refine w_eql ?_) | (with_reducible refine w_neq ?_) | (with_reducible refine s_eql ?_) | (with_reducible refine s_neq ?_) | ((with_reducible refine a_add64 ?h0 ?h1 ?_); (case h0 => omega); (case h1 => omega);  skip) | ((with_reducible refine a_sub64 ?h0 ?h1 ?_); (case h0 => omega); (case h1 => omega);  skip) | ((with_reducible refine a_mul64 ?h0 ?h1 ?_); (case h0 => omega); (case h1 => omega);  skip) | (with_reducible refine a_notd ?_) | (with_reducible refine a_not ?_) | (with_reducible refine a_ext0 ?_) | (with_reducible refine a_ext1 ?_) | (with_reducible refine a_ext2 ?_) | (with_reducible refine x_len ?_) | (with_reducible refine x_lens ?_) | (with_reducible refine x_eqb ?_) | (with_reducible refine x_neb ?_) | (with_reducible refine x_nilP ?_) | (with_reducible refine x_nilPn ?_) | (with_reducible refine x_nilF ?_) | (with_reducible refine x_nilFF ?_) | (with_reducible refine w_eqlL ?_) | (with_reducible refine w_neqL ?_) | (with_reducible refine s_eqlL ?_) | (with_reducible refine ifnt ?_) | (with_reducible refine ifnf ?_) | (with_reducible refine x_eqB ?_) | (with_reducible refine x_neB ?_) | (with_reducible refine x_lssL ?_) | (with_reducible refine x_gtrL ?_) | (with_reducible refine x_geqL ?_) | (with_reducible refine s_neqL ?_) | (with_reducible refine St.load h ?_) | (with_reducible refine St.loadS h ?_) | (with_reducible refine a_fld0 ?_) | (with_reducible refine St.store h fun W h => ?_) | (with_reducible refine St.storeS h fun W h => ?_) | (with_reducible refine St.alloc h fun b W h => ?_) | (with_reducible refine St.allocS h fun b W h => ?_) | (with_reducible refine a_nil ?_) | (with_reducible refine ss_load ?_) | (with_reducible refine ss_loadS ?_) | (with_reducible refine ss_eqb ?_)))
  refine ifd_neg (by decide) ?_
  have q0 := newD_Q h0 h1
  have c0 : (newD 1048576).calls = 0 := rfl
  generalize newD 1048576 = d at *
  refine ldoes_spec (v := (.pointer (some ⟨bd, 0, none⟩) : Value)) h ha hfa hsa (by omega) fun zs1 W _ h => ?_
  have q1 := opsP_q oa q0
  have c1 := opsP_calls oa d
  generalize opsP d oa = d1 at *
  have hlen1 := q1.v.lenN
  refine peek_spec (s := s) (freezeD (v := (.pointer (some ⟨bd, 0, none⟩) : Value)) h) fun x W ox h2 => ?_
  replace h := h.frame1 h2
  clear h2
  refine a_ext0 (a_ext1 ?_)
  refine dnames_spec (freezeD (v := (.pointer (some ⟨bd, 0, none⟩) : Value)) h) (by omega) fun sv W osv h2 => ?_
  replace h := h.frame1 h2
  clear h2
  refine rename_spec (v := (.pointer (some ⟨bd, 0, none⟩) : Value)) (s := s) (t := t) h (by omega) (by omega) (by omega) fun zs2 W hz2 h => ?_
  have q2 := renameP_q q1 s t
  have c2 := renameP_calls d1 s t
  have hbad := rename_bad q1 (s := s) (t := t)
  have hgood := rename_good q1 (s := s) (t := t)
  generalize hr : d1.renameP s t = r at *
  refine dnames_spec (freezeD (v := (.pointer (some ⟨bd, 0, none⟩) : Value)) h) (by omega) fun sv2 W osv2 h2 => ?_
  replace h := h.frame1 h2
  clear h2
  refine w_neq (ifd (fun hne => ?_) fun hne => ?_)
  · obtain ⟨e1, e2⟩ := hbad hne
    refine first_spec fun W hb3 => ?_
    replace h := h.ext hb3
    refine ift ?_
    refine texts_spec (a := r.1.now.map Prod.fst) (b := d1.now.map Prod.fst) (h.osl (v := sv2)) (h.osl (v := sv)) (by rw [e1, List.length_map]; omega) fun W hb4 => ?_
    replace h := h.ext hb4
    rw [decide_eq_true (by rw [e1])]
    refine ift ?_
    refine w_eql (ifd (fun h11 => k W h.low) fun h11 => ?_)
    rcases e2 with e2 | ⟨e2, e3⟩
    · exact absurd e2 h11
    refine w_eql (ifd_pos e2 ?_)
    rw [e3]
    refine a_not ?_
    exact k W h.low
  have hr0 : r.2 = 0 := by simpa using hne
  obtain ⟨g1, g2, g3⟩ := hgood hr0
  have gt1 : getK t r.1.now = some (gt s d1.now) := by rw [g3, if_pos rfl]
  refine peek_spec (s := t) (freezeD (v := (.pointer (some ⟨bd, 0, none⟩) : Value)) h) fun y W oy h2 => ?_
  replace h := h.frame1 h2
  clear h2
  refine a_ext0 (a_ext1 ?_)
  refine peek_spec (s := s) (freezeD (v := (.pointer (some ⟨bd, 0, none⟩) : Value)) h) fun z W oz h2 => ?_
  replace h := h.frame1 h2
  clear h2
  refine a_ext0 (a_ext1 ?_)
  have e1 : (getK s d1.now).isSome = true := by rw [getK_some g2]; rfl
  have e2 : (getK t r.1.now).isSome = true := by rw [gt1]; rfl
  have e3 : gt t r.1.now = gt s d1.now := by unfold gt; rw [gt1]; rfl
  have e4 : (getK s r.1.now).isSome = decide (s = t) := by
    rw [g3]
    by_cases hst : s = t
    · rw [if_pos hst]; simp [hst]
    · rw [if_neg hst, if_pos rfl]; simp [hst]
  rw [e1, e2, e4]
  (repeat (first | (with_reducible refine ift ?_) | (with_reducible refine iff' ?_) | (with_reducible refine a_lss ?_) | (with_reducible refine a_leq ?_) | (with_reducible refine a_gtr ?_) | (with_reducible refine a_geq ?_) | (with_reducible refine w_eql ?_) | (with_reducible refine w_neq ?_) | (with_reducible refine s_eql ?_) | (with_reducible refine s_neq ?_) | ((with_reducible refine a_add64 ?h0 ?h1 ?_); (case h0 => omega); (case h1 => omega);  skip) | ((with_reducible refine a_sub64 ?h0 ?h1 ?_); (case h0 => omega); (case h1 => omega);  skip) | ((with_reducible refine a_mul64 ?h0 ?h1 ?_); (case h0 => omega); (case h1 => omega);  skip) | (with_reducible refine a_notd ?_) | (with_reducible refine a_not ?_) | (with_reducible refine a_ext0 ?_) | (with_reducible refine a_ext1 ?_) | (with_reducible refine a_ext2 ?_) | (with_reducible refine x_len ?_) | (with_reducible refine x_lens ?_) | (with_reducible refine x_eqb ?_) | (with_reducible refine x_neb ?_) | (with_reducible refine x_nilP ?_) | (with_reducible refine x_nilPn ?_) | (with_reducible refine x_nilF ?_) | (with_reducible refine x_nilFF ?_) | (with_reducible refine w_eqlL ?_) | (with_reducible refine w_neqL ?_) | (with_reducible refine s_eqlL ?_) | (with_reducible refine ifnt ?_) | (with_reducible refine ifnf ?_) | (with_reducible refine x_eqB ?_) | (with_reducible refine x_neB ?_) | (with_reducible refine x_lssL ?_) | (with_reducible refine x_gtrL ?_) | (with_reducible refine x_geqL ?_) | (with_reducible refine s_neqL ?_) | (with_reducible refine St.load h ?_) | (with_reducible refine St.loadS h ?_) | (with_reducible refine a_fld0 ?_) | (with_reducible refine St.store h fun W h => ?_) | (with_reducible refine St.storeS h fun W h => ?_) | (with_reducible refine St.alloc h fun b W h => ?_) | (with_reducible refine St.allocS h fun b W h => ?_) | (with_reducible refine a_nil ?_) | (with_reducible refine ss_load ?_) | (with_reducible refine ss_loadS ?_) | (with_reducible refine ss_eqb ?_)))
  refine bytes_spec (h.osl (v := y)) (h.osl (v := x)) ?_
  rw [decide_eq_true e3]
  (repeat (first | (with_reducible refine ift ?_) | (with_reducible refine iff' ?_) | (with_reducible refine a_lss ?_) | (with_reducible refine a_leq ?_) | (with_reducible refine a_gtr ?_) | (with_reducible refine a_geq ?_) | (with_reducible refine w_eql ?_) | (with_reducible refine w_neq ?_) | (with_reducible refine s_eql ?_) | (with_reducible refine s_neq ?_) | ((with_reducible refine a_add64 ?h0 ?h1 ?_); (case h0 => omega); (case h1 => omega);  skip) | ((with_reducible refine a_sub64 ?h0 ?h1 ?_); (case h0 => omega); (case h1 => omega);  skip) | ((with_reducible refine a_mul64 ?h0 ?h1 ?_); (case h0 => omega); (case h1 => omega);  skip) | (with_reducible refine a_notd ?_) | (with_reducible refine a_not ?_) | (with_reducible refine a_ext0 ?_) | (with_reducible refine a_ext1 ?_) | (with_reducible refine a_ext2 ?_) | (with_reducible refine x_len ?_) | (with_reducible refine x_lens ?_) | (with_reducible refine x_eqb ?_) | (with_reducible refine x_neb ?_) | (with_reducible refine x_nilP ?_) | (with_reducible refine x_nilPn ?_) | (with_reducible refine x_nilF ?_) | (with_reducible refine x_nilFF ?_) | (with_reducible refine w_eqlL ?_) | (with_reducible refine w_neqL ?_) | (with_reducible refine s_eqlL ?_) | (with_reducible refine ifnt ?_) | (with_reducible refine ifnf ?_) | (with_reducible refine x_eqB ?_) | (with_reducible refine x_neB ?_) | (with_reducible refine x_lssL ?_) | (with_reducible refine x_gtrL ?_) | (with_reducible refine x_geqL ?_) | (with_reducible refine s_neqL ?_) | (with_reducible refine St.load h ?_) | (with_reducible refine St.loadS h ?_) | (with_reducible refine a_fld0 ?_) | (with_reducible refine St.store h fun W h => ?_) | (with_reducible refine St.storeS h fun W h => ?_) | (with_reducible refine St.alloc h fun b W h => ?_) | (with_reducible refine St.allocS h fun b W h => ?_) | (with_reducible refine a_nil ?_) | (with_reducible refine ss_load ?_) | (with_reducible refine ss_loadS ?_) | (with_reducible refine ss_eqb ?_)))
  have ebb : ∀ b : Bool, (!(b == b)) = false := by decide
  rw [ebb]
  refine iff' ?_
  have hs1 : ∀ {W' : World}, Below W.heap.size W W' → Sl W' 1 sv (d1.now.map Prod.fst).length ((d1.now.map Prod.fst).map strV) := fun hb => Sl.below (h.osl (v := sv)) hb
  have hs2 : ∀ {W' : World}, Below W.heap.size W W' → Sl W' 1 sv2 (r.1.now.map Prod.fst).length ((r.1.now.map Prod.fst).map strV) := fun hb => Sl.below (h.osl (v := sv2)) hb
  have hl1 : (d1.now.map Prod.fst).length ≤ 1000000 := by rw [List.length_map]; omega
  have hl2 : (r.1.now.map Prod.fst).length ≤ 1000000 := by
    have := q2.v.lenN
    rw [List.length_map]; omega
  have hmem : ∀ p ∈ d1.now.map Prod.fst, p ≠ s → p ∈ r.1.now.map Prod.fst := fun p hp hne => by
    rw [mem_keys] at hp ⊢
    rw [g3]
    split
    · simp
    · first | exact hp | (rw [if_neg hne]; exact hp)
  refine lpx (α := Nat) (fun i => [nV .i64 i]) (fun i W' => W' = W ∧ i ≤ (d1.now.map Prod.fst).length) (fun i => (d1.now.map Prod.fst).length - i) 0 (fun _ => rfl) rfl ⟨rfl, Nat.zero_le _⟩ ?_
  rintro next i W' hnext ⟨rfl, hi⟩
  refine app1 ?_
  refine x_lenS (hs1 (Below.refl _ _)) ?_
  refine a_lss (ifd (fun hlt => ?_) fun hlt => ?_)
  · have hil : i < (d1.now.map Prod.fst).length := by omega
    obtain ⟨p, hp⟩ : ∃ p, (d1.now.map Prod.fst)[i]? = some p := ⟨_, List.getElem?_eq_getElem hil⟩
    have hpm := List.mem_of_getElem? hp
    have hpv : ((d1.now.map Prod.fst).map strV)[i]? = some (strV p) := by rw [List.getElem?_map, hp]; rfl
    refine jni (fun vs W2 => W2 = W' ∧ vs = [strV s, strV t, .pointer (some ⟨bd, 0, none⟩), sv, sv2, nV .i64 i]) ?_ ?_
    · rintro vs W2 _ ⟨rfl, rfl⟩
      refine app6 ?_
      refine a_add64 (by omega) (by omega) ?_
      rw [show ((i : Int) + 1) = ((i + 1 : Nat) : Int) by push_cast; rfl]
      exact ⟨rfl, rfl, rfl, rfl, rfl, hnext (i + 1) W2 (by omega) ⟨rfl, by omega⟩⟩
    refine x_at (hs1 (Below.refl _ _)) (u := strV p) hpv ?_
    refine w_neqL (ifd (fun hne => ?_) fun hne => ⟨rfl, rfl⟩)
    refine x_at (hs1 (Below.refl _ _)) (u := strV p) hpv ?_
    refine lhas_spec (a := r.1.now.map Prod.fst) (hs2 (Below.refl _ _)) (by omega) ?_
    rw [decide_eq_true (hmem p hpm hne)]
    (repeat (first | (with_reducible refine ift ?_) | (with_reducible refine iff' ?_) | (with_reducible refine a_lss ?_) | (with_reducible refine a_leq ?_) | (with_reducible refine a_gtr ?_) | (with_reducible refine a_geq ?_) | (with_reducible refine w_eql ?_) | (with_reducible refine w_neq ?_) | (with_reducible refine s_eql ?_) | (with_reducible refine s_neq ?_) | ((with_reducible refine a_add64 ?h0 ?h1 ?_); (case h0 => omega); (case h1 => omega);  skip) | ((with_reducible refine a_sub64 ?h0 ?h1 ?_); (case h0 => omega); (case h1 => omega);  skip) | ((with_reducible refine a_mul64 ?h0 ?h1 ?_); (case h0 => omega); (case h1 => omega);  skip) | (with_reducible refine a_notd ?_) | (with_reducible refine a_not ?_) | (with_reducible refine a_ext0 ?_) | (with_reducible refine a_ext1 ?_) | (with_reducible refine a_ext2 ?_) | (with_reducible refine x_len ?_) | (with_reducible refine x_lens ?_) | (with_reducible refine x_eqb ?_) | (with_reducible refine x_neb ?_) | (with_reducible refine x_nilP ?_) | (with_reducible refine x_nilPn ?_) | (with_reducible refine x_nilF ?_) | (with_reducible refine x_nilFF ?_) | (with_reducible refine w_eqlL ?_) | (with_reducible refine w_neqL ?_) | (with_reducible refine s_eqlL ?_) | (with_reducible refine ifnt ?_) | (with_reducible refine ifnf ?_) | (with_reducible refine x_eqB ?_) | (with_reducible refine x_neB ?_) | (with_reducible refine x_lssL ?_) | (with_reducible refine x_gtrL ?_) | (with_reducible refine x_geqL ?_) | (with_reducible refine s_neqL ?_) | (with_reducible refine St.load h ?_) | (with_reducible refine St.loadS h ?_) | (with_reducible refine a_fld0 ?_) | (with_reducible refine St.store h fun W h => ?_) | (with_reducible refine St.storeS h fun W h => ?_) | (with_reducible refine St.alloc h fun b W h => ?_) | (with_reducible refine St.allocS h fun b W h => ?_) | (with_reducible refine a_nil ?_) | (with_reducible refine ss_load ?_) | (with_reducible refine ss_loadS ?_) | (with_reducible refine ss_eqb ?_)))
    exact ⟨rfl, rfl⟩
  · obtain ⟨k1, k2⟩ := delete_good q2 g1 (by rw [gt1]; simp)
    refine delete_spec (v := (.pointer (some ⟨bd, 0, none⟩) : Value)) (s := t) h (by omega) (by omega) fun zs3 W hz3 h => ?_
    have q3 := deleteP_q q2 t
    have c3 := deleteP_calls r.1 t
    generalize r.1.deleteP t = r3 at *
    refine peek_spec (s := t) (freezeD (v := (.pointer (some ⟨bd, 0, none⟩) : Value)) h) fun y2 W oy2 h2 => ?_
    replace h := h.frame1 h2
    clear h2
    refine a_ext0 (a_ext1 ?_)
    refine first_spec fun W hb3 => ?_
    replace h := h.ext hb3
    refine ift ?_
    refine w_eql (ifd_pos k1 ?_)
    rw [k2]
    refine a_not (ift ?_)
    have k3 := delete_none q3 g1 k2
    refine delete_spec (v := (.pointer (some ⟨bd, 0, none⟩) : Value)) (s := t) h (by omega) (by omega) fun zs4 W hz4 h => ?_
    refine w_eql ?_
    rw [k3]
    exact k W h.low
end
end Go.Proofs.Ytdoopdbfajgnjaa
