/-
  OmapEarly: ranges that end early, and a map turned while it is told: the walk.
-/
import Derived.Test.YtdjgchofnkancaaOmL
namespace Go.Proofs.Ytdjgchofnkancaa
open Go Go.Ez Go.RowKit
set_option linter.unusedSimpArgs false
set_option linter.unusedVariables false

section
variable {w : World} {R : Value → World → Prop}
/-- hbllaw2.OmapEarly -/
theorem early_spec {l1 : List Call} {v1 : Value} {n1 : Nat} {cnt : Int} (hv1 : Sl w 4 v1 n1 (callsC l1)) (hn1 : n1 = l1.length) (hbig1 : l1.length ≤ 9223372036854775807)
    (h : ∀ w', Below w.heap.size w w' → R (.bool true) w') : CallF Try.prog 8 #[v1, .int .i64 cnt] w R := by
  refine sh8_calls ?_
  unfold sh8
  subst hn1
  have hR := h
  have h := St.start w
  refine first2_spec fun W m => ?_
  replace h := h.ext m
  (repeat (first | (with_reducible refine ift ?_) | (with_reducible refine iff' ?_) | (with_reducible refine a_lss ?_) | (with_reducible refine a_leq ?_) | (with_reducible refine a_gtr ?_) | (with_reducible refine a_geq ?_) | (with_reducible refine w_eql ?_) | (with_reducible refine w_neq ?_) | (with_reducible refine s_eql ?_) | (with_reducible refine s_neq ?_) | ((with_reducible refine a_add64 ?h0 ?h1 ?_); (case h0 => omega); (case h1 => omega);  skip) | ((with_reducible refine a_sub64 ?h0 ?h1 ?_); (case h0 => omega); (case h1 => omega);  skip) | ((with_reducible refine a_mul64 ?h0 ?h1 ?_); (case h0 => omega); (case h1 => omega);  skip) | (with_reducible refine a_notd ?_) | (with_reducible refine a_not ?_) | (with_reducible refine a_ext0 ?_) | (with_reducible refine a_ext1 ?_) | (with_reducible refine a_ext2 ?_) | (with_reducible refine x_len ?_) | (with_reducible refine x_lens ?_) | (with_reducible refine x_eqb ?_) | (with_reducible refine x_neb ?_) | (with_reducible refine x_nilP ?_) | (with_reducible refine x_nilPn ?_) | (with_reducible refine x_nilF ?_) | (with_reducible refine x_nilFF ?_) | (with_reducible refine w_eqlL ?_) | (with_reducible refine w_neqL ?_) | (with_reducible refine s_eqlL ?_) | (with_reducible refine ifnt ?_) | (with_reducible refine ifnf ?_) | (with_reducible refine x_eqB ?_) | (with_reducible refine x_neB ?_) | (with_reducible refine x_lssL ?_) | (with_reducible refine x_gtrL ?_) | (with_reducible refine x_geqL ?_) | (with_reducible refine s_neqL ?_) | (with_reducible refine St.load h ?_) | (with_reducible refine St.loadS h ?_) | (with_reducible refine a_fld0 ?_) | (with_reducible refine St.store h fun W h => ?_) | (with_reducible refine St.storeS h fun W h => ?_) | (with_reducible refine St.alloc h fun b W h => ?_) | (with_reducible refine St.allocS h fun b W h => ?_) | (with_reducible refine a_nil ?_) | (with_reducible refine ss_load ?_) | (with_reducible refine ss_loadS ?_) | (with_reducible refine ss_eqb ?_)))
  refine newis_spec h fun xv W h => ?_
  obtain ⟨bx, rfl, _⟩ := h.ptrM (v := xv)
  have bad : ∀ W {l : List As}, St w G0 l W → RunW Try.prog (bin .neq 41 (.tmp 27) (.const (.pointer none)) (.pointer (some ⟨bx, 0, none⟩)) (.pointer none)) W fun x => IfB x (CallF Try.prog 14 #[] W fun x w => R x w) (R (.bool false) W) := by
    intro W l h
    (repeat (first | (with_reducible refine ift ?_) | (with_reducible refine iff' ?_) | (with_reducible refine a_lss ?_) | (with_reducible refine a_leq ?_) | (with_reducible refine a_gtr ?_) | (with_reducible refine a_geq ?_) | (with_reducible refine w_eql ?_) | (with_reducible refine w_neq ?_) | (with_reducible refine s_eql ?_) | (with_reducible refine s_neq ?_) | ((with_reducible refine a_add64 ?h0 ?h1 ?_); (case h0 => omega); (case h1 => omega);  skip) | ((with_reducible refine a_sub64 ?h0 ?h1 ?_); (case h0 => omega); (case h1 => omega);  skip) | ((with_reducible refine a_mul64 ?h0 ?h1 ?_); (case h0 => omega); (case h1 => omega);  skip) | (with_reducible refine a_notd ?_) | (with_reducible refine a_not ?_) | (with_reducible refine a_ext0 ?_) | (with_reducible refine a_ext1 ?_) | (with_reducible refine a_ext2 ?_) | (with_reducible refine x_len ?_) | (with_reducible refine x_lens ?_) | (with_reducible refine x_eqb ?_) | (with_reducible refine x_neb ?_) | (with_reducible refine x_nilP ?_) | (with_reducible refine x_nilPn ?_) | (with_reducible refine x_nilF ?_) | (with_reducible refine x_nilFF ?_) | (with_reducible refine w_eqlL ?_) | (with_reducible refine w_neqL ?_) | (with_reducible refine s_eqlL ?_) | (with_reducible refine ifnt ?_) | (with_reducible refine ifnf ?_) | (with_reducible refine x_eqB ?_) | (with_reducible refine x_neB ?_) | (with_reducible refine x_lssL ?_) | (with_reducible refine x_gtrL ?_) | (with_reducible refine x_geqL ?_) | (with_reducible refine s_neqL ?_) | (with_reducible refine St.load h ?_) | (with_reducible refine St.loadS h ?_) | (with_reducible refine a_fld0 ?_) | (with_reducible refine St.store h fun W h => ?_) | (with_reducible refine St.storeS h fun W h => ?_) | (with_reducible refine St.alloc h fun b W h => ?_) | (with_reducible refine St.allocS h fun b W h => ?_) | (with_reducible refine a_nil ?_) | (with_reducible refine ss_load ?_) | (with_reducible refine ss_loadS ?_) | (with_reducible refine ss_eqb ?_)))
    refine ift ?_
    exact first2_spec fun W m => hR W (h.ext m).low
  (repeat (first | (with_reducible refine ift ?_) | (with_reducible refine iff' ?_) | (with_reducible refine a_lss ?_) | (with_reducible refine a_leq ?_) | (with_reducible refine a_gtr ?_) | (with_reducible refine a_geq ?_) | (with_reducible refine w_eql ?_) | (with_reducible refine w_neq ?_) | (with_reducible refine s_eql ?_) | (with_reducible refine s_neq ?_) | ((with_reducible refine a_add64 ?h0 ?h1 ?_); (case h0 => omega); (case h1 => omega);  skip) | ((with_reducible refine a_sub64 ?h0 ?h1 ?_); (case h0 => omega); (case h1 => omega);  skip) | ((with_reducible refine a_mul64 ?h0 ?h1 ?_); (case h0 => omega); (case h1 => omega);  skip) | (with_reducible refine a_notd ?_) | (with_reducible refine a_not ?_) | (with_reducible refine a_ext0 ?_) | (with_reducible refine a_ext1 ?_) | (with_reducible refine a_ext2 ?_) | (with_reducible refine x_len ?_) | (with_reducible refine x_lens ?_) | (with_reducible refine x_eqb ?_) | (with_reducible refine x_neb ?_) | (with_reducible refine x_nilP ?_) | (with_reducible refine x_nilPn ?_) | (with_reducible refine x_nilF ?_) | (with_reducible refine x_nilFF ?_) | (with_reducible refine w_eqlL ?_) | (with_reducible refine w_neqL ?_) | (with_reducible refine s_eqlL ?_) | (with_reducible refine ifnt ?_) | (with_reducible refine ifnf ?_) | (with_reducible refine x_eqB ?_) | (with_reducible refine x_neB ?_) | (with_reducible refine x_lssL ?_) | (with_reducible refine x_gtrL ?_) | (with_reducible refine x_geqL ?_) | (with_reducible refine s_neqL ?_) | (with_reducible refine St.load h ?_) | (with_reducible refine St.loadS h ?_) | (with_reducible refine a_fld0 ?_) | (with_reducible refine St.store h fun W h => ?_) | (with_reducible refine St.storeS h fun W h => ?_) | (with_reducible refine St.alloc h fun b W h => ?_) | (with_reducible refine St.allocS h fun b W h => ?_) | (with_reducible refine a_nil ?_) | (with_reducible refine ss_load ?_) | (with_reducible refine ss_loadS ?_) | (with_reducible refine ss_eqb ?_)))
  refine iff' ?_
  refine x_lenS hv1 ?_
  refine a_gtr (ifd (fun hc => bad W h) fun hc1 => ?_)
  clear bad
  have hl1 : l1.length ≤ 300 := by omega
  refine x_bld (cells := #[.slice none 0 0]) rfl ?_
  refine St.boxS (cs := [.slice none 0 0]) h fun bp W h => ?_
  replace h : St w G0 (Ky (.pointer (some ⟨bp, 0, none⟩) : Value) (Mx []) :: Ky (.pointer (some ⟨bx, 0, none⟩) : Value) (Mpis []) :: []) W := (h.nilOw (e := 80) (sz := 2)).shutM (b := bp) (sl := .slice none 0 0) (m := []) List.Pairwise.nil rfl rfl
  refine lpx (α := Nat) (fun i => [nV .i64 i]) (fun i W => i ≤ l1.length ∧ St w G0 [Ky (.pointer (some ⟨bp, 0, none⟩) : Value) (Mx (pmap (l1.take i))), Ky (.pointer (some ⟨bx, 0, none⟩) : Value) (Mpis (pmap (l1.take i)))] W) (fun i => l1.length - i) 0 (fun _ => rfl) rfl ⟨Nat.zero_le _, h⟩ ?_
  clear h
  rintro next i W hnext ⟨hi', h⟩
  refine app1 ?_
  have hml := pmap_len (l1.take i)
  rw [List.length_take] at hml
  refine x_lenS hv1 ?_
  refine a_lss (ifd (fun hc => ?_) fun hc => ?_)
  · obtain ⟨o, ho⟩ : ∃ o, l1[i]? = some o := ⟨_, List.getElem?_eq_getElem (by omega)⟩
    refine ⟨fun W' => W' = _, rfl, ?_⟩
    replace h := h.drew
    refine x_sfld (w1 := W.drew) (h.sl0 hv1) (fun _ e => by subst e; exact h.sl0 hv1) (by omega) (by decide) ((callsC_get ho (by decide)).trans rfl) ?_
    refine x_sfld (w1 := W.drew) (h.sl0 hv1) (fun _ e => by subst e; exact h.sl0 hv1) (by omega) (by decide) ((callsC_get ho (by decide)).trans rfl) ?_
    refine putis_spec (v := (.pointer (some ⟨bx, 0, none⟩) : Value)) (k := o.k) (x := o.v) h (by omega) fun W h => ?_
    refine ⟨fun W' => W' = _, rfl, ?_⟩
    replace h := h.drew
    refine x_sfld (w1 := W.drew) (h.sl0 hv1) (fun _ e => by subst e; exact h.sl0 hv1) (by omega) (by decide) ((callsC_get ho (by decide)).trans rfl) ?_
    refine x_sfld (w1 := W.drew) (h.sl0 hv1) (fun _ e => by subst e; exact h.sl0 hv1) (by omega) (by decide) ((callsC_get ho (by decide)).trans rfl) ?_
    refine rput_spec (v := .pointer (some ⟨bp, 0, none⟩)) (k := o.k) (x := o.v) h (by omega) fun W h => ?_
    (repeat (first | (with_reducible refine ift ?_) | (with_reducible refine iff' ?_) | (with_reducible refine a_lss ?_) | (with_reducible refine a_leq ?_) | (with_reducible refine a_gtr ?_) | (with_reducible refine a_geq ?_) | (with_reducible refine w_eql ?_) | (with_reducible refine w_neq ?_) | (with_reducible refine s_eql ?_) | (with_reducible refine s_neq ?_) | ((with_reducible refine a_add64 ?h0 ?h1 ?_); (case h0 => omega); (case h1 => omega);  skip) | ((with_reducible refine a_sub64 ?h0 ?h1 ?_); (case h0 => omega); (case h1 => omega);  skip) | ((with_reducible refine a_mul64 ?h0 ?h1 ?_); (case h0 => omega); (case h1 => omega);  skip) | (with_reducible refine a_notd ?_) | (with_reducible refine a_not ?_) | (with_reducible refine a_ext0 ?_) | (with_reducible refine a_ext1 ?_) | (with_reducible refine a_ext2 ?_) | (with_reducible refine x_len ?_) | (with_reducible refine x_lens ?_) | (with_reducible refine x_eqb ?_) | (with_reducible refine x_neb ?_) | (with_reducible refine x_nilP ?_) | (with_reducible refine x_nilPn ?_) | (with_reducible refine x_nilF ?_) | (with_reducible refine x_nilFF ?_) | (with_reducible refine w_eqlL ?_) | (with_reducible refine w_neqL ?_) | (with_reducible refine s_eqlL ?_) | (with_reducible refine ifnt ?_) | (with_reducible refine ifnf ?_) | (with_reducible refine x_eqB ?_) | (with_reducible refine x_neB ?_) | (with_reducible refine x_lssL ?_) | (with_reducible refine x_gtrL ?_) | (with_reducible refine x_geqL ?_) | (with_reducible refine s_neqL ?_) | (with_reducible refine St.load h ?_) | (with_reducible refine St.loadS h ?_) | (with_reducible refine a_fld0 ?_) | (with_reducible refine St.store h fun W h => ?_) | (with_reducible refine St.storeS h fun W h => ?_) | (with_reducible refine St.alloc h fun b W h => ?_) | (with_reducible refine St.allocS h fun b W h => ?_) | (with_reducible refine a_nil ?_) | (with_reducible refine ss_load ?_) | (with_reducible refine ss_loadS ?_) | (with_reducible refine ss_eqb ?_)))
    refine ⟨rfl, rfl, rfl, rfl, ?_⟩
    rw [show ((i : Int) + 1) = ((i + 1 : Nat) : Int) by push_cast; rfl]
    refine hnext (i + 1) W (by omega) ⟨by omega, ?_⟩
    rw [List.take_add_one, ho]
    rw [show (some o).toList = [o] from rfl, pmap_snoc]
    exact h.to
  have hil : i = l1.length := by omega
  subst hil
  rw [List.take_length] at h hml
  clear hnext next hc hi'
  generalize pmap l1 = m1 at *
  have etell : ∀ (r : List (Int × Txt)), (tellis r).map (List.take 1) = (r.map Prod.fst).map fun k => [Enc.enc k] := fun r => by simp [tellis]
  have len2 : ∀ (r : List (Int × Txt)), ∀ x ∈ tellis r, x.length = 2 := fun r x hx => by obtain ⟨p, _, rfl⟩ := List.mem_map.1 hx; rfl
  refine from_spec (v := .pointer (some ⟨bp, 0, none⟩)) h (by omega) fun va vb W oa ob h => ?_
  rw [told_all] at h
  refine a_ext0 (a_ext1 ?_)
  refine w_max ?_
  refine x_lenS (h.osl (v := va)) ?_
  refine w_min ?_
  obtain ⟨c, hc⟩ : ∃ c : Nat, max cnt 0 = c := ⟨(max cnt 0).toNat, by omega⟩
  have hc' : cnt.toNat = c := by omega
  rw [hc, show min (c : Int) ((m1.length : Nat) : Int) = ((min c m1.length : Nat) : Int) by omega]
  refine allis_spec (v := .pointer (some ⟨bx, 0, none⟩)) h (by omega) fun f1 b1 W hI h => ?_
  refine pairs_spec (f := f1) hI h (by omega) fun vc vd W oc od h => ?_
  refine a_ext0 (a_ext1 ?_)
  replace h := h.untwo (k := f1)
  refine allis_spec (v := .pointer (some ⟨bx, 0, none⟩)) h (by omega) fun f2 b2 W hI h => ?_
  refine keysis_spec (f := f2) hI (len2 _) h fun f3 b3 W hI h => ?_
  rw [etell] at hI
  refine takeis_spec (f := f3) (ks := m1.map Prod.fst) (n := cnt) hI h (by rw [List.length_map]; omega) fun ve W oe h => ?_
  replace h := (h.untwo (k := f3)).untwo (k := f2)
  rw [hc', ← List.map_take] at h
  have cut : ∀ {α : Type} [Enc α] (r : List α), r.length = m1.length → (r.map Enc.enc).take (min c m1.length) = (r.take c).map Enc.enc := by
    intro α _ r hr
    rw [← List.map_take, ← hr]
    congr 1
    rcases Nat.le_total c r.length with hc | hc
    · rw [Nat.min_eq_left hc]
    · rw [Nat.min_eq_right hc, List.take_length, List.take_of_length_le hc]
  refine a_sliceH (SlT.el (P := Try.prog) (t := 46)) (h.osl (v := va)) (by omega) (by omega) fun v' hv' => ?_
  simp only [Int.toNat_natCast, Nat.mul_one] at hv'
  rw [cut (m1.map Prod.fst) (List.length_map ..), ← List.map_take] at hv'
  refine eqis_spec (xs := (m1.take c).map Prod.fst) (ys := (m1.take c).map Prod.fst) (h.osl (v := vc)) hv' (by rw [List.length_map, List.length_take]; omega) fun W m' => ?_
  replace h := h.ext m'
  rw [decide_eq_true rfl]
  refine a_not (iff' ?_)
  refine a_sliceH (SlT.el (P := Try.prog) (t := 22)) (h.osl (v := vb)) (by omega) (by omega) fun v' hv' => ?_
  simp only [Int.toNat_natCast, Nat.mul_one] at hv'
  rw [cut (m1.map Prod.snd) (List.length_map ..), ← List.map_take] at hv'
  refine eqsi_spec (xs := (m1.take c).map Prod.snd) (ys := (m1.take c).map Prod.snd) (h.osl (v := vd)) hv' (by rw [List.length_map, List.length_take]; omega) fun W m' => ?_
  replace h := h.ext m'
  rw [decide_eq_true rfl]
  refine a_not (iff' ?_)
  refine a_sliceH (SlT.el (P := Try.prog) (t := 46)) (h.osl (v := va)) (by omega) (by omega) fun v' hv' => ?_
  simp only [Int.toNat_natCast, Nat.mul_one] at hv'
  rw [cut (m1.map Prod.fst) (List.length_map ..), ← List.map_take] at hv'
  refine eqis_spec (xs := (m1.take c).map Prod.fst) (ys := (m1.take c).map Prod.fst) (h.osl (v := ve)) hv' (by rw [List.length_map, List.length_take]; omega) fun W m' => ?_
  replace h := h.ext m'
  rw [decide_eq_true rfl]
  refine a_not (iff' ?_)
  refine meanwhile_spec (v := .pointer (some ⟨bx, 0, none⟩)) (lc := l1) h hv1 (by omega) (by omega) fun vf mz W of h => ?_
  replace h : St w G0 (Ky (.nilFunc : Value) (fun _ => As.all True []) :: _) W := St.shutA (φ := True) (L := []) trivial h
  replace h : St w G0 (Ky (.nilFunc : Value) (fun _ => As.all True []) :: _) W := St.shutA (φ := True) (L := []) trivial h
  refine mergeis_spec (f1 := .nilFunc) (f2 := .nilFunc) (m1 := []) (m2 := []) (.inl ⟨rfl, rfl⟩) (.inl ⟨rfl, rfl⟩) h (Nat.zero_le _) (Nat.zero_le _) fun f5 b6 b7 W hI h => ?_
  rw [mrg_nil] at hI
  refine pairs_spec (f := f5) hI h (Nat.zero_le _) fun vg vh W og oh h => ?_
  refine a_ext0 (a_ext1 ?_)
  refine first2_spec fun W m => ?_
  replace h := h.ext m
  refine ift ?_
  refine eqis_spec (xs := m1.map Prod.fst) (ys := m1.map Prod.fst) (h.osl (v := vf)) (h.osl (v := va)) (by rw [List.length_map]; omega) fun W m' => ?_
  replace h := h.ext m'
  rw [decide_eq_true rfl]
  refine ift ?_
  refine x_lenS (h.osl (v := vg)) ?_
  refine x_lenS (h.osl (v := vh)) ?_
  refine a_add64 (by simp) (by simp) ?_
  refine w_eql (ifd_pos (by simp) ?_)
  refine sh26_calls ?_
  unfold sh26
  refine h.boxV fun bt W h => ?_
  refine x_nilFF (ift ?_)
  refine x_lenS (Sl.nil W 1) ?_
  refine w_eql ?_
  rw [decide_eq_true (by simp)]
  exact hR W h.low
end
end Go.Proofs.Ytdjgchofnkancaa
