/-
  DiffNumbers: how many turned: the walk.
-/
import Derived.Test.YtdjgchofnkancaaDfB
import Derived.Test.YtdjgchofnkancaaDfAsi
import Derived.Test.YtdjgchofnkancaaOmU
namespace Go.Proofs.Ytdjgchofnkancaa
open Go Go.Ez Go.RowKit
set_option linter.unusedSimpArgs false
set_option linter.unusedVariables false

section
variable {w : World} {R : Value → World → Prop}

theorem first21_diff : dff (fmap [(([97] : Txt), ([49] : Txt)), ([98], [50])]) (fmap [(([98] : Txt), ([51] : Txt))]) = [([97], [], true), ([98], [51], false)] := by
  have e1 : fmap [(([97] : Txt), ([49] : Txt)), ([98], [50])] = [([97], [49]), ([98], [50])] := by decide
  have e2 : fmap [(([98] : Txt), ([51] : Txt))] = [([98], [51])] := by decide
  rw [e1, e2]
  have e3 : mrg [(([97] : Txt), ([49] : Txt)), ([98], [50])] [(([98] : Txt), ([51] : Txt))] = [([97], [49]), ([98], [51])] := by
    rw [mrg_x (.inr ⟨_, _, rfl, by decide⟩), mrg_b (x := (([98] : Txt), ([50] : Txt))) (y := (([98] : Txt), ([51] : Txt))) rfl, mrg_nil]
  unfold dff
  rw [e3]
  decide

/-- hbllaw21.first -/
theorem first21_spec (h : ∀ w', Below w.heap.size w w' → R (.bool true) w') : CallF Try.prog 42 #[] w R := by
  refine sh42_calls ?_
  unfold sh42
  have hR := h
  have h := St.start w
  refine x_bld (cells := #[strV [97], strV [49]]) rfl ?_
  refine x_bld (cells := #[strV [98], strV [50]]) rfl ?_
  refine h.lit (vs := [.agg [strV [97], strV [49]].toArray, .agg [strV [98], strV [50]].toArray]) (fun u1 W o1 h => ?_) (by decide)
  have hs1 : Sl W 2 u1 2 (pcells [(([97] : Txt), ([49] : Txt)), ([98], [50])]) := h.osl (v := u1)
  refine map21_spec hs1 rfl (by decide) fun va W h' => ?_
  replace h := h.frame1 h'
  clear h' hs1
  replace h : St w G0 [Ky va (Mpss (fmap [(([97] : Txt), ([49] : Txt)), ([98], [50])]))] W := h.to
  refine x_bld (cells := #[strV [98], strV [51]]) rfl ?_
  refine h.lit (vs := [.agg [strV [98], strV [51]].toArray]) (fun u2 W o2 h => ?_) (by decide)
  have hs1 : Sl W 2 u2 1 (pcells [(([98] : Txt), ([51] : Txt))]) := h.osl (v := u2)
  refine map21_spec hs1 rfl (by decide) fun vb W h' => ?_
  replace h := h.frame1 h'
  clear h' hs1
  replace h : St w G0 [Ky vb (Mpss (fmap [(([98] : Txt), ([51] : Txt))])), Ky va (Mpss (fmap [(([97] : Txt), ([49] : Txt)), ([98], [50])]))] W := h.to
  have za : Mnss (fmap [(([97] : Txt), ([49] : Txt)), ([98], [50])]) W va := .inr (h.freeze (v := va))
  have zb : Mnss (fmap [(([98] : Txt), ([51] : Txt))]) W vb := .inr (h.freeze (v := vb))
  have hl := h.low
  clear h
  have h := St.start W
  refine ofss_spec za zb h (by decide) (by decide) fun f b1 b2 W' hI h => ?_
  rw [first21_diff] at hI
  refine ranged_spec (f := f) hI h (by decide) fun vc W' oc h => ?_
  rw [show ([(([97] : Txt), ([] : Txt), true), ([98], [51], false)] : List Ch).take (9 : Int).toNat = [([97], [], true), ([98], [51], false)] by decide] at h
  refine changes_spec (h.osl (v := vc)) rfl (by decide) fun vd W' od h' => ?_
  replace h : St W G0 (Ky vd (Ow 102 3 2 (ccells [([97], [], true), ([98], [51], false)])) :: _) W' := h.frame1 h'
  clear h'
  refine x_bld (cells := #[strV [97], strV [], .bool true]) rfl ?_
  refine x_bld (cells := #[strV [98], strV [51], .bool false]) rfl ?_
  refine h.lit (vs := [.agg [strV [97], strV [], .bool true].toArray, .agg [strV [98], strV [51], .bool false].toArray]) (fun u3 W' o3 h => ?_) (by decide)
  have hs3 : Sl W' 3 u3 2 (ccells [([97], [], true), ([98], [51], false)]) := h.osl (v := u3)
  refine same_spec (h.osl (v := vd)) rfl hs3 rfl (by decide) fun W' hb => ?_
  rw [decide_eq_true rfl]
  exact hR _ (Below.next hl (h.ext hb).low)

theorem getDsi_spec {m : List (Txt × Int)} {v : Value} {W : World} (hz : Mzsi m W v) {k : Txt} (hl : m.length ≤ 1000000000) (kk : ∀ W', Below W.heap.size W W' → R (.tuple #[Enc.enc ((getK k m).getD default), .bool (getK k m).isSome]) W') :
    CallF Try.prog 23 #[v, Enc.enc k] W R := by
  refine getsi_specZ hz hl (fun x W' hx hb => ?_) fun W' hx hb => ?_
  · have := kk W' hb
    rw [hx] at this
    exact this
  · have := kk W' hb
    rw [hx] at this
    exact this

theorem filterMap_len {α γ δ : Type} {q : α → Option γ} {q' : α → Option δ} (h : ∀ a, (q a).isSome = (q' a).isSome) : ∀ l : List α, (l.filterMap q).length = (l.filterMap q').length
  | [] => rfl
  | a :: l => by
    have ih := filterMap_len h l
    have ha := h a
    cases h1 : q a <;> cases h2 : q' a <;> rw [h1, h2] at ha <;> simp at ha
    · rw [List.filterMap_cons_none h1, List.filterMap_cons_none h2, ih]
    · rw [List.filterMap_cons_some h1, List.filterMap_cons_some h2, List.length_cons, List.length_cons, ih]

theorem uniqM_is {k : Txt} (ls : List Txt) : (getK k (uniqM ls)).isSome = true ↔ k ∈ ls := by
  obtain ⟨qs, rfl⟩ : ∃ qs, ls = List.reverse qs := ⟨ls.reverse, by simp⟩
  induction qs with
  | nil => simp [uniqM, getK]
  | cons p qs ih =>
    rw [List.reverse_cons, uniqM_snoc, get_put (uniqM_srt _), List.mem_append, List.mem_singleton]
    split
    · rename_i h; simp [h]
    · rename_i h; rw [ih]; simp [h]
theorem fmap_is {β : Type} {k : Txt} (ps : List (Txt × β)) : (getK k (fmap ps)).isSome = true ↔ k ∈ ps.map Prod.fst := by
  obtain ⟨g1, g0⟩ := fmap_get k ps
  cases hg : getK k (fmap ps) with
  | none =>
    refine ⟨fun h => (by cases h), fun h => ?_⟩
    obtain ⟨p, hp, rfl⟩ := List.mem_map.1 h
    obtain ⟨i, hi⟩ := List.mem_iff_getElem?.1 hp
    exact absurd rfl (g0 hg i p hi)
  | some x =>
    refine ⟨fun _ => ?_, fun _ => rfl⟩
    obtain ⟨X, hX, _⟩ := g1 x hg
    exact List.mem_map.2 ⟨(k, x), List.mem_iff_getElem?.2 ⟨X, hX⟩, rfl⟩
theorem mrg_uniq {β : Type} {l1 l2 : List Txt} {p1 p2 : List (Txt × β)} (h1 : p1.map Prod.fst = l1) (h2 : p2.map Prod.fst = l2) : (mrg (fmap p1) (fmap p2)).map Prod.fst = uniq (l1 ++ l2) := by
  subst h1 h2
  refine keys_ext (mrg_srt (fmap_srt _) (fmap_srt _)) (uniqM_srt _) fun k => ?_
  rw [mrg_get (fmap_srt _) (fmap_srt _)]
  have e : ((getK k (fmap p2)).or (getK k (fmap p1))).isSome = true ↔ (getK k (uniqM (p1.map Prod.fst ++ p2.map Prod.fst))).isSome = true := by
    rw [uniqM_is, List.mem_append, ← fmap_is p1, ← fmap_is p2]
    cases getK k (fmap p1) <;> cases getK k (fmap p2) <;> simp
  cases h1 : ((getK k (fmap p2)).or (getK k (fmap p1))).isSome <;> cases h2 : (getK k (uniqM (p1.map Prod.fst ++ p2.map Prod.fst))).isSome <;> rw [h1, h2] at e <;> simp at e ⊢

/-- hbllaw21.DiffNumbers -/
theorem numbers_spec {l1 l2 : List Txt} {v1 v2 : Value} {n1 n2 : Nat} (hv1 : Sl w 1 v1 n1 (l1.map Enc.enc)) (hbig1 : l1.length ≤ 9223372036854775807) (hv2 : Sl w 1 v2 n2 (l2.map Enc.enc)) (hbig2 : l2.length ≤ 9223372036854775807)
    (h : ∀ w', Below w.heap.size w w' → R (.bool true) w') : CallF Try.prog 7 #[v1, v2] w R := by
  refine sh7_calls ?_
  unfold sh7
  obtain rfl : n1 = l1.length := by obtain ⟨_, _, _, _, e, _⟩ := hv1; simpa using e.symm
  obtain rfl : n2 = l2.length := by obtain ⟨_, _, _, _, e, _⟩ := hv2; simpa using e.symm
  have hR := h
  have h := St.start w
  refine first21_spec fun W m => ?_
  replace h := h.ext m
  (repeat (first | (with_reducible refine ift ?_) | (with_reducible refine iff' ?_) | (with_reducible refine a_lss ?_) | (with_reducible refine a_leq ?_) | (with_reducible refine a_gtr ?_) | (with_reducible refine a_geq ?_) | (with_reducible refine w_eql ?_) | (with_reducible refine w_neq ?_) | (with_reducible refine s_eql ?_) | (with_reducible refine s_neq ?_) | ((with_reducible refine a_add64 ?h0 ?h1 ?_); (case h0 => omega); (case h1 => omega);  skip) | ((with_reducible refine a_sub64 ?h0 ?h1 ?_); (case h0 => omega); (case h1 => omega);  skip) | ((with_reducible refine a_mul64 ?h0 ?h1 ?_); (case h0 => omega); (case h1 => omega);  skip) | (with_reducible refine a_notd ?_) | (with_reducible refine a_not ?_) | (with_reducible refine a_ext0 ?_) | (with_reducible refine a_ext1 ?_) | (with_reducible refine a_ext2 ?_) | (with_reducible refine x_len ?_) | (with_reducible refine x_lens ?_) | (with_reducible refine x_eqb ?_) | (with_reducible refine x_neb ?_) | (with_reducible refine x_nilP ?_) | (with_reducible refine x_nilPn ?_) | (with_reducible refine x_nilF ?_) | (with_reducible refine x_nilFF ?_) | (with_reducible refine w_eqlL ?_) | (with_reducible refine w_neqL ?_) | (with_reducible refine s_eqlL ?_) | (with_reducible refine ifnt ?_) | (with_reducible refine ifnf ?_) | (with_reducible refine x_eqB ?_) | (with_reducible refine x_neB ?_) | (with_reducible refine x_lssL ?_) | (with_reducible refine x_gtrL ?_) | (with_reducible refine x_geqL ?_) | (with_reducible refine s_neqL ?_) | (with_reducible refine St.load h ?_) | (with_reducible refine St.loadS h ?_) | (with_reducible refine a_fld0 ?_) | (with_reducible refine St.store h fun W h => ?_) | (with_reducible refine St.storeS h fun W h => ?_) | (with_reducible refine St.alloc h fun b W h => ?_) | (with_reducible refine St.allocS h fun b W h => ?_) | (with_reducible refine a_nil ?_) | (with_reducible refine ss_load ?_) | (with_reducible refine ss_loadS ?_) | (with_reducible refine ss_eqb ?_)))
  refine newsi_spec h fun xv W h => ?_
  refine newsi_spec h fun yv W h => ?_
  obtain ⟨bx, rfl, _⟩ := h.ptrM (v := xv)
  obtain ⟨bY, rfl, _⟩ := h.ptrM (v := yv)
  have bad : ∀ W {l : List As}, St w G0 l W → RunW Try.prog (bin .neq 24 (.tmp 36) (.const (.pointer none)) (.pointer (some ⟨bx, 0, none⟩)) (.pointer none)) W fun x => IfB x (RunW Try.prog (bin .neq 24 (.tmp 39) (.const (.pointer none)) (.pointer (some ⟨bY, 0, none⟩)) (.pointer none)) W fun x => IfB x (CallF Try.prog 42 #[] W fun x w => R x w) (R (.bool false) W)) (R (.bool false) W) := by
    intro W l h
    (repeat (first | (with_reducible refine ift ?_) | (with_reducible refine iff' ?_) | (with_reducible refine a_lss ?_) | (with_reducible refine a_leq ?_) | (with_reducible refine a_gtr ?_) | (with_reducible refine a_geq ?_) | (with_reducible refine w_eql ?_) | (with_reducible refine w_neq ?_) | (with_reducible refine s_eql ?_) | (with_reducible refine s_neq ?_) | ((with_reducible refine a_add64 ?h0 ?h1 ?_); (case h0 => omega); (case h1 => omega);  skip) | ((with_reducible refine a_sub64 ?h0 ?h1 ?_); (case h0 => omega); (case h1 => omega);  skip) | ((with_reducible refine a_mul64 ?h0 ?h1 ?_); (case h0 => omega); (case h1 => omega);  skip) | (with_reducible refine a_notd ?_) | (with_reducible refine a_not ?_) | (with_reducible refine a_ext0 ?_) | (with_reducible refine a_ext1 ?_) | (with_reducible refine a_ext2 ?_) | (with_reducible refine x_len ?_) | (with_reducible refine x_lens ?_) | (with_reducible refine x_eqb ?_) | (with_reducible refine x_neb ?_) | (with_reducible refine x_nilP ?_) | (with_reducible refine x_nilPn ?_) | (with_reducible refine x_nilF ?_) | (with_reducible refine x_nilFF ?_) | (with_reducible refine w_eqlL ?_) | (with_reducible refine w_neqL ?_) | (with_reducible refine s_eqlL ?_) | (with_reducible refine ifnt ?_) | (with_reducible refine ifnf ?_) | (with_reducible refine x_eqB ?_) | (with_reducible refine x_neB ?_) | (with_reducible refine x_lssL ?_) | (with_reducible refine x_gtrL ?_) | (with_reducible refine x_geqL ?_) | (with_reducible refine s_neqL ?_) | (with_reducible refine St.load h ?_) | (with_reducible refine St.loadS h ?_) | (with_reducible refine a_fld0 ?_) | (with_reducible refine St.store h fun W h => ?_) | (with_reducible refine St.storeS h fun W h => ?_) | (with_reducible refine St.alloc h fun b W h => ?_) | (with_reducible refine St.allocS h fun b W h => ?_) | (with_reducible refine a_nil ?_) | (with_reducible refine ss_load ?_) | (with_reducible refine ss_loadS ?_) | (with_reducible refine ss_eqb ?_)))
    refine ift ?_
    (repeat (first | (with_reducible refine ift ?_) | (with_reducible refine iff' ?_) | (with_reducible refine a_lss ?_) | (with_reducible refine a_leq ?_) | (with_reducible refine a_gtr ?_) | (with_reducible refine a_geq ?_) | (with_reducible refine w_eql ?_) | (with_reducible refine w_neq ?_) | (with_reducible refine s_eql ?_) | (with_reducible refine s_neq ?_) | ((with_reducible refine a_add64 ?h0 ?h1 ?_); (case h0 => omega); (case h1 => omega);  skip) | ((with_reducible refine a_sub64 ?h0 ?h1 ?_); (case h0 => omega); (case h1 => omega);  skip) | ((with_reducible refine a_mul64 ?h0 ?h1 ?_); (case h0 => omega); (case h1 => omega);  skip) | (with_reducible refine a_notd ?_) | (with_reducible refine a_not ?_) | (with_reducible refine a_ext0 ?_) | (with_reducible refine a_ext1 ?_) | (with_reducible refine a_ext2 ?_) | (with_reducible refine x_len ?_) | (with_reducible refine x_lens ?_) | (with_reducible refine x_eqb ?_) | (with_reducible refine x_neb ?_) | (with_reducible refine x_nilP ?_) | (with_reducible refine x_nilPn ?_) | (with_reducible refine x_nilF ?_) | (with_reducible refine x_nilFF ?_) | (with_reducible refine w_eqlL ?_) | (with_reducible refine w_neqL ?_) | (with_reducible refine s_eqlL ?_) | (with_reducible refine ifnt ?_) | (with_reducible refine ifnf ?_) | (with_reducible refine x_eqB ?_) | (with_reducible refine x_neB ?_) | (with_reducible refine x_lssL ?_) | (with_reducible refine x_gtrL ?_) | (with_reducible refine x_geqL ?_) | (with_reducible refine s_neqL ?_) | (with_reducible refine St.load h ?_) | (with_reducible refine St.loadS h ?_) | (with_reducible refine a_fld0 ?_) | (with_reducible refine St.store h fun W h => ?_) | (with_reducible refine St.storeS h fun W h => ?_) | (with_reducible refine St.alloc h fun b W h => ?_) | (with_reducible refine St.allocS h fun b W h => ?_) | (with_reducible refine a_nil ?_) | (with_reducible refine ss_load ?_) | (with_reducible refine ss_loadS ?_) | (with_reducible refine ss_eqb ?_)))
    refine ift ?_
    exact first21_spec fun W m => hR W (h.ext m).low
  (repeat (first | (with_reducible refine ift ?_) | (with_reducible refine iff' ?_) | (with_reducible refine a_lss ?_) | (with_reducible refine a_leq ?_) | (with_reducible refine a_gtr ?_) | (with_reducible refine a_geq ?_) | (with_reducible refine w_eql ?_) | (with_reducible refine w_neq ?_) | (with_reducible refine s_eql ?_) | (with_reducible refine s_neq ?_) | ((with_reducible refine a_add64 ?h0 ?h1 ?_); (case h0 => omega); (case h1 => omega);  skip) | ((with_reducible refine a_sub64 ?h0 ?h1 ?_); (case h0 => omega); (case h1 => omega);  skip) | ((with_reducible refine a_mul64 ?h0 ?h1 ?_); (case h0 => omega); (case h1 => omega);  skip) | (with_reducible refine a_notd ?_) | (with_reducible refine a_not ?_) | (with_reducible refine a_ext0 ?_) | (with_reducible refine a_ext1 ?_) | (with_reducible refine a_ext2 ?_) | (with_reducible refine x_len ?_) | (with_reducible refine x_lens ?_) | (with_reducible refine x_eqb ?_) | (with_reducible refine x_neb ?_) | (with_reducible refine x_nilP ?_) | (with_reducible refine x_nilPn ?_) | (with_reducible refine x_nilF ?_) | (with_reducible refine x_nilFF ?_) | (with_reducible refine w_eqlL ?_) | (with_reducible refine w_neqL ?_) | (with_reducible refine s_eqlL ?_) | (with_reducible refine ifnt ?_) | (with_reducible refine ifnf ?_) | (with_reducible refine x_eqB ?_) | (with_reducible refine x_neB ?_) | (with_reducible refine x_lssL ?_) | (with_reducible refine x_gtrL ?_) | (with_reducible refine x_geqL ?_) | (with_reducible refine s_neqL ?_) | (with_reducible refine St.load h ?_) | (with_reducible refine St.loadS h ?_) | (with_reducible refine a_fld0 ?_) | (with_reducible refine St.store h fun W h => ?_) | (with_reducible refine St.storeS h fun W h => ?_) | (with_reducible refine St.alloc h fun b W h => ?_) | (with_reducible refine St.allocS h fun b W h => ?_) | (with_reducible refine a_nil ?_) | (with_reducible refine ss_load ?_) | (with_reducible refine ss_loadS ?_) | (with_reducible refine ss_eqb ?_)))
  refine iff' ?_
  (repeat (first | (with_reducible refine ift ?_) | (with_reducible refine iff' ?_) | (with_reducible refine a_lss ?_) | (with_reducible refine a_leq ?_) | (with_reducible refine a_gtr ?_) | (with_reducible refine a_geq ?_) | (with_reducible refine w_eql ?_) | (with_reducible refine w_neq ?_) | (with_reducible refine s_eql ?_) | (with_reducible refine s_neq ?_) | ((with_reducible refine a_add64 ?h0 ?h1 ?_); (case h0 => omega); (case h1 => omega);  skip) | ((with_reducible refine a_sub64 ?h0 ?h1 ?_); (case h0 => omega); (case h1 => omega);  skip) | ((with_reducible refine a_mul64 ?h0 ?h1 ?_); (case h0 => omega); (case h1 => omega);  skip) | (with_reducible refine a_notd ?_) | (with_reducible refine a_not ?_) | (with_reducible refine a_ext0 ?_) | (with_reducible refine a_ext1 ?_) | (with_reducible refine a_ext2 ?_) | (with_reducible refine x_len ?_) | (with_reducible refine x_lens ?_) | (with_reducible refine x_eqb ?_) | (with_reducible refine x_neb ?_) | (with_reducible refine x_nilP ?_) | (with_reducible refine x_nilPn ?_) | (with_reducible refine x_nilF ?_) | (with_reducible refine x_nilFF ?_) | (with_reducible refine w_eqlL ?_) | (with_reducible refine w_neqL ?_) | (with_reducible refine s_eqlL ?_) | (with_reducible refine ifnt ?_) | (with_reducible refine ifnf ?_) | (with_reducible refine x_eqB ?_) | (with_reducible refine x_neB ?_) | (with_reducible refine x_lssL ?_) | (with_reducible refine x_gtrL ?_) | (with_reducible refine x_geqL ?_) | (with_reducible refine s_neqL ?_) | (with_reducible refine St.load h ?_) | (with_reducible refine St.loadS h ?_) | (with_reducible refine a_fld0 ?_) | (with_reducible refine St.store h fun W h => ?_) | (with_reducible refine St.storeS h fun W h => ?_) | (with_reducible refine St.alloc h fun b W h => ?_) | (with_reducible refine St.allocS h fun b W h => ?_) | (with_reducible refine a_nil ?_) | (with_reducible refine ss_load ?_) | (with_reducible refine ss_loadS ?_) | (with_reducible refine ss_eqb ?_)))
  refine iff' ?_
  refine x_lenS hv1 ?_
  refine a_gtr (ifd (fun hc => bad W h) fun hc1 => ?_)
  refine x_lenS hv2 ?_
  refine a_gtr (ifd (fun hc => bad W h) fun hc2 => ?_)
  clear bad
  have hl1 : l1.length ≤ 200 := by omega
  have hl2 : l2.length ≤ 200 := by omega
  refine lpx (α := Nat) (fun i => [nV .i64 i]) (fun i W => i ≤ l1.length ∧ ∃ ps : List (Txt × Int), ps.map Prod.fst = l1.take i ∧ St w G0 [Ky (.pointer (some ⟨bY, 0, none⟩) : Value) (Mpsi []), Ky (.pointer (some ⟨bx, 0, none⟩) : Value) (Mpsi (fmap ps))] W) (fun i => l1.length - i) 0 (fun _ => rfl) rfl ⟨Nat.zero_le _, [], rfl, h⟩ ?_
  clear h
  rintro next i W hnext ⟨hi', ps, hps, h⟩
  have hpl : ps.length = min i l1.length := by have := congrArg List.length hps; simpa using this
  refine app1 ?_
  have hml := fmap_len ps
  refine x_lenS hv1 ?_
  refine a_lss (ifd (fun hc => ?_) fun hc => ?_)
  · obtain ⟨o, ho⟩ : ∃ o, l1[i]? = some o := ⟨_, List.getElem?_eq_getElem (by omega)⟩
    have hov : (l1.map (Enc.enc (κ := Txt)))[i]? = some (Enc.enc o) := by rw [List.getElem?_map, ho]; rfl
    refine x_at (h.sl0 hv1) hov ?_
    refine a_rem64 (by omega) (by decide) ?_
    refine putsi_spec (v := (.pointer (some ⟨bx, 0, none⟩) : Value)) (k := o) (x := (i : Int) % 3) h (by omega) fun W h => ?_
    refine a_add64 (by omega) (by omega) ⟨rfl, rfl, rfl, rfl, ?_⟩
    rw [show ((i : Int) + 1) = ((i + 1 : Nat) : Int) by push_cast; rfl]
    refine hnext (i + 1) W (by omega) ⟨by omega, ps ++ [(o, (i : Int) % 3)], ?_, ?_⟩
    · rw [List.map_append, hps, List.take_add_one, ho]; rfl
    · rw [fmap_snoc]; exact h.to
  have hil : i = l1.length := by omega
  subst hil
  rw [List.take_length] at hps
  clear hnext next hc hi'
  refine lpx (α := Nat) (fun i => [nV .i64 i]) (fun i W => i ≤ l2.length ∧ ∃ qs : List (Txt × Int), qs.map Prod.fst = l2.take i ∧ St w G0 [Ky (.pointer (some ⟨bY, 0, none⟩) : Value) (Mpsi (fmap qs)), Ky (.pointer (some ⟨bx, 0, none⟩) : Value) (Mpsi (fmap ps))] W) (fun i => l2.length - i) 0 (fun _ => rfl) rfl ⟨Nat.zero_le _, [], rfl, h⟩ ?_
  clear h
  rintro next i W hnext ⟨hi', qs, hqs, h⟩
  have hql : qs.length = min i l2.length := by have := congrArg List.length hqs; simpa using this
  refine app1 ?_
  have hmq := fmap_len qs
  refine x_lenS hv2 ?_
  refine a_lss (ifd (fun hc => ?_) fun hc => ?_)
  · obtain ⟨o, ho⟩ : ∃ o, l2[i]? = some o := ⟨_, List.getElem?_eq_getElem (by omega)⟩
    have hov : (l2.map (Enc.enc (κ := Txt)))[i]? = some (Enc.enc o) := by rw [List.getElem?_map, ho]; rfl
    refine x_at (h.sl0 hv2) hov ?_
    refine a_rem64 (by omega) (by decide) ?_
    refine putsi_spec (v := (.pointer (some ⟨bY, 0, none⟩) : Value)) (k := o) (x := (i : Int) % 3) h (by omega) fun W h => ?_
    refine a_add64 (by omega) (by omega) ⟨rfl, rfl, rfl, rfl, ?_⟩
    rw [show ((i : Int) + 1) = ((i + 1 : Nat) : Int) by push_cast; rfl]
    refine hnext (i + 1) W (by omega) ⟨by omega, qs ++ [(o, (i : Int) % 3)], ?_, ?_⟩
    · rw [List.map_append, hqs, List.take_add_one, ho]; rfl
    · rw [fmap_snoc]; exact h.to
  have hil : i = l2.length := by omega
  subst hil
  rw [List.take_length] at hqs
  clear hnext next hc hi'
  have hks := mrg_uniq hps hqs
  have hks' : (mrg (fmap qs) (fmap ps)).map Prod.fst = uniq (l1 ++ l2) := by
    rw [← hks]
    refine keys_ext (mrg_srt (fmap_srt _) (fmap_srt _)) (mrg_srt (fmap_srt _) (fmap_srt _)) fun k => ?_
    rw [mrg_get (fmap_srt _) (fmap_srt _), mrg_get (fmap_srt _) (fmap_srt _)]
    cases getK k (fmap ps) <;> cases getK k (fmap qs) <;> rfl
  generalize fmap ps = a at *
  generalize fmap qs = b at *
  refine sh43_calls ?_
  unfold sh43
  refine h.lit (vs := []) (cs := []) (fun u1 W o1 h => ?_) (by decide)
  have one : ∀ {l : List Txt}, ∀ c ∈ l.map (Enc.enc (κ := Txt)), c.oneCell' = true := fun {l} c hc => by
    obtain ⟨x, _, rfl⟩ := List.mem_map.1 hc
    exact Enc.one x
  refine St.app (v := u1) h (h.sl0 hv1) one (by unfold maxLen; omega) (by omega) fun u2 W o2 h _ => ?_
  refine St.app (v := u2) h (h.sl0 hv2) one (by unfold maxLen; omega) (by omega) fun u3 W o3 h _ => ?_
  have hs3 : Sl W 1 u3 (0 + l1.length + l2.length) ((l1 ++ l2).map Enc.enc) := by
    have := h.osl (v := u3)
    rwa [List.nil_append, ← List.map_append] at this
  refine unique_spec hs3 (by rw [List.length_append]; omega) fun uv W2 hu m2 => ?_
  replace h := h.take m2 hu
  generalize uniq (l1 ++ l2) = ks at *
  have hkl : ks.length ≤ a.length + b.length := by
    rw [← hks, List.length_map]; exact mrg_len a b
  have h1 : St w G0 [Ky uv (Ow 9 1 ks.length (ks.map Enc.enc)), Ky (.pointer (some ⟨bY, 0, none⟩) : Value) (Mpsi b), Ky (.pointer (some ⟨bx, 0, none⟩) : Value) (Mpsi a)] W2 := h.to
  clear h hs3 hu
  refine lpx (α := Nat) (fun i => [nV .i64 ((ks.take i).filterMap (ch1 a b)).length, nV .i64 i]) (fun i W => i ≤ ks.length ∧ St w G0 [Ky uv (Ow 9 1 ks.length (ks.map Enc.enc)), Ky (.pointer (some ⟨bY, 0, none⟩) : Value) (Mpsi b), Ky (.pointer (some ⟨bx, 0, none⟩) : Value) (Mpsi a)] W) (fun i => ks.length - i) 0 (fun _ => rfl) rfl ⟨Nat.zero_le _, h1⟩ ?_
  clear h1
  rintro next i W hnext ⟨hi', h⟩
  refine app2 ?_
  refine x_lenS (h.osl (v := uv)) ?_
  have gle := fmap_le (q := ch1 a b) ks i
  have gle2 := List.length_filterMap_le (ch1 a b) ks
  refine a_lss (ifd (fun hc => ?_) fun hc => ?_)
  · obtain ⟨k, hk⟩ : ∃ k, ks[i]? = some k := ⟨_, List.getElem?_eq_getElem (by omega)⟩
    have hkv : (ks.map (Enc.enc (κ := Txt)))[i]? = some (Enc.enc k) := by rw [List.getElem?_map, hk]; rfl
    obtain ⟨g1, g0⟩ := fmap_at (q := ch1 a b) hk
    refine x_at (h.osl (v := uv)) hkv ?_
    refine getDsi_spec (h.freeze (v := .pointer (some ⟨bx, 0, none⟩))) (by omega) fun W hb => ?_
    replace h := h.ext hb
    refine a_ext0 (a_ext1 ?_)
    refine x_at (h.osl (v := uv)) hkv ?_
    refine getDsi_spec (h.freeze (v := .pointer (some ⟨bY, 0, none⟩))) (by omega) fun W hb => ?_
    replace h := h.ext hb
    refine a_ext0 (a_ext1 ?_)
    refine jni (fun vs W => vs = [.pointer (some ⟨bx, 0, none⟩), .pointer (some ⟨bY, 0, none⟩), nV .i64 ((ks.take (i + 1)).filterMap (ch1 a b)).length, uv, nV .i64 i] ∧ St w G0 [Ky uv (Ow 9 1 ks.length (ks.map Enc.enc)), Ky (.pointer (some ⟨bY, 0, none⟩) : Value) (Mpsi b), Ky (.pointer (some ⟨bx, 0, none⟩) : Value) (Mpsi a)] W) ?_ ?_
    · rintro vs W _ ⟨rfl, h⟩
      refine app5 ?_
      refine a_add64 (by omega) (by omega) ⟨rfl, rfl, rfl, ?_⟩
      rw [show ((i : Int) + 1) = ((i + 1 : Nat) : Int) by push_cast; rfl]
      exact hnext (i + 1) W (by omega) ⟨by omega, h⟩
    have turned : ∀ c, chg (getK k a) (getK k b) = some c → ((ks.take (i + 1)).filterMap (ch1 a b)).length = ((ks.take i).filterMap (ch1 a b)).length + 1 := fun c hc => (g1 (k, c) (by simp [ch1, hc])).2
    have same : chg (getK k a) (getK k b) = none → ((ks.take (i + 1)).filterMap (ch1 a b)).length = ((ks.take i).filterMap (ch1 a b)).length := fun hc => g0 (by simp [ch1, hc])
    refine x_neb ?_
    cases hbe : ((getK k a).isSome == (getK k b).isSome)
    · refine ift ?_
      refine a_add64 (by omega) (by omega) ⟨?_, h⟩
      rw [turned ((getK k b).getD default, !(getK k b).isSome) (by
        unfold chg
        rw [if_neg]
        rintro ⟨h1, _⟩
        rw [h1, beq_self_eq_true] at hbe; cases hbe)]
      rfl
    · refine iff' ?_
      have e1 := eq_of_beq hbe
      refine w_neq (ifd (fun e2 => ?_) fun e2 => ?_)
      · refine a_add64 (by omega) (by omega) ⟨?_, h⟩
        rw [turned ((getK k b).getD default, !(getK k b).isSome) (by
          unfold chg
          rw [if_neg fun h => e2 h.2])]
        rfl
      · refine ⟨?_, h⟩
        rw [same (by unfold chg; rw [if_pos ⟨e1, Classical.not_not.1 e2⟩])]
  · have hil : i = ks.length := by omega
    subst hil
    rw [List.take_length]
    have d1 : (dff a b).length = (ks.filterMap (ch1 a b)).length := by rw [dff_keys, hks]
    have d2 : (dff b a).length = (ks.filterMap (ch1 a b)).length := by
      rw [dff_keys, hks']
      refine filterMap_len (fun k => ?_) ks
      have := chg_comm (o := getK k b) (n := getK k a)
      simpa [ch1] using this
    refine first21_spec fun W m' => ?_
    replace h := h.ext m'
    refine ift ?_
    have za : Mnsi a W (.pointer (some ⟨bx, 0, none⟩)) := .inr (h.freeze (v := .pointer (some ⟨bx, 0, none⟩)))
    have zb : Mnsi b W (.pointer (some ⟨bY, 0, none⟩)) := .inr (h.freeze (v := .pointer (some ⟨bY, 0, none⟩)))
    have hl := h.low
    clear h
    have h := St.start W
    refine countsi_spec za zb h (by omega) (by omega) fun W' h => ?_
    rw [d1]
    refine w_eql (ifd_pos rfl ?_)
    refine countsi_spec zb za h (by omega) (by omega) fun W' h => ?_
    rw [d2]
    refine w_eql ?_
    rw [decide_eq_true rfl]
    exact hR _ (Below.next hl h.low)
end
end Go.Proofs.Ytdjgchofnkancaa
