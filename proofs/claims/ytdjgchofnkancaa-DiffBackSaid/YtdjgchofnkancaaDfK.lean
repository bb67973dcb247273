/-
  DiffBack: there and back, by parts: the walk.
-/
import Derived.Test.YtdjgchofnkancaaDfQ
import Derived.Test.YtdjgchofnkancaaDfN
namespace Go.Proofs.Ytdjgchofnkancaa
open Go Go.Ez Go.RowKit
set_option linter.unusedSimpArgs false
set_option linter.unusedVariables false

theorem dff_none {a : List (Txt × Txt)} (ha : Srt a) : (dff a []).length = a.length := by
  have h : ∀ p ∈ a, (ch1 a [] p.1).isSome = true := by
    intro p hp
    have hk : (getK p.1 a).isSome = true := mem_keys.1 (List.mem_map.2 ⟨p, hp, rfl⟩)
    unfold ch1
    rw [Option.isSome_map]
    cases hg : chg (getK p.1 a) (getK p.1 []) with
    | some c => rfl
    | none =>
      rw [chg_none.1 hg] at hk
      cases hk
  unfold dff
  rw [mrg_nil]
  have go : ∀ l : List (Txt × Txt), (∀ p ∈ l, (ch1 a [] p.1).isSome = true) → (l.filterMap fun p => ch1 a [] p.1).length = l.length := by
    intro l
    induction l with
    | nil => intro _; rfl
    | cons p l ih =>
      intro h
      obtain ⟨d, hd⟩ := Option.isSome_iff_exists.1 (h p List.mem_cons_self)
      have ih := ih fun q hq => h q (List.mem_cons_of_mem _ hq)
      simp only [List.filterMap_cons, hd, List.length_cons, ih]
  exact go a h

section
variable {w : World} {R : Value → World → Prop}
/-- hbllaw21.DiffBack -/
theorem dback_spec {l1 l2 : List (Txt × Txt)} {v1 v2 : Value} {cnt : Int} (hv1 : Sl w 2 v1 l1.length (pcells l1)) (hv2 : Sl w 2 v2 l2.length (pcells l2))
    (h : ∀ w', Below w.heap.size w w' → R (.bool true) w') : CallF Try.prog 13 #[v1, v2, .int .i64 cnt] w R := by
  refine sh13_calls ?_
  unfold sh13
  have hR := h
  have h := St.start w
  refine first21_spec fun W m => ?_
  replace h := h.ext m
  refine a_not (iff' ?_)
  refine few_spec (h.sl0 hv1) rfl fun b W m hb1 => ?_
  replace h := h.ext m
  refine a_not (ifnb (fun _ => first21_spec fun W m => hR W (h.ext m).low) fun e1 => ?_)
  refine few_spec (h.sl0 hv2) rfl fun b' W m hb2 => ?_
  replace h := h.ext m
  refine a_not (ifnb (fun _ => first21_spec fun W m => hR W (h.ext m).low) fun e2 => ?_)
  refine a_lss (ifd (fun _ => first21_spec fun W m => hR W (h.ext m).low) fun hn1 => ?_)
  refine a_gtr (ifd (fun _ => first21_spec fun W m => hR W (h.ext m).low) fun hn2 => ?_)
  obtain ⟨n, rfl⟩ : ∃ n : Nat, cnt = n := ⟨cnt.toNat, by omega⟩
  have hl1 := hb1 e1
  have hl2 := hb2 e2
  clear hb1 hb2
  refine map21_spec (h.sl0 hv1) rfl (by omega) fun va W h' => ?_
  replace h := h.frame1 h'
  clear h'
  refine map21_spec (h.sl0 hv2) rfl (by omega) fun vb W h' => ?_
  replace h := h.frame1 h'
  clear h'
  have hla := fmap_len l1
  have hlb := fmap_len l2
  have ha := fmap_srt l1
  have hb := fmap_srt l2
  generalize fmap l1 = a at *
  generalize fmap l2 = b at *
  obtain ⟨ba, rfl, _⟩ := h.ptrM (v := va)
  obtain ⟨bb, rfl, _⟩ := h.ptrM (v := vb)
  (repeat (first | (with_reducible refine ift ?_) | (with_reducible refine iff' ?_) | (with_reducible refine a_lss ?_) | (with_reducible refine a_leq ?_) | (with_reducible refine a_gtr ?_) | (with_reducible refine a_geq ?_) | (with_reducible refine w_eql ?_) | (with_reducible refine w_neq ?_) | (with_reducible refine s_eql ?_) | (with_reducible refine s_neq ?_) | ((with_reducible refine a_add64 ?h0 ?h1 ?_); (case h0 => omega); (case h1 => omega);  skip) | ((with_reducible refine a_sub64 ?h0 ?h1 ?_); (case h0 => omega); (case h1 => omega);  skip) | ((with_reducible refine a_mul64 ?h0 ?h1 ?_); (case h0 => omega); (case h1 => omega);  skip) | (with_reducible refine a_notd ?_) | (with_reducible refine a_not ?_) | (with_reducible refine a_ext0 ?_) | (with_reducible refine a_ext1 ?_) | (with_reducible refine a_ext2 ?_) | (with_reducible refine x_len ?_) | (with_reducible refine x_lens ?_) | (with_reducible refine x_eqb ?_) | (with_reducible refine x_neb ?_) | (with_reducible refine x_nilP ?_) | (with_reducible refine x_nilPn ?_) | (with_reducible refine x_nilF ?_) | (with_reducible refine x_nilFF ?_) | (with_reducible refine w_eqlL ?_) | (with_reducible refine w_neqL ?_) | (with_reducible refine s_eqlL ?_) | (with_reducible refine ifnt ?_) | (with_reducible refine ifnf ?_) | (with_reducible refine x_eqB ?_) | (with_reducible refine x_neB ?_) | (with_reducible refine x_lssL ?_) | (with_reducible refine x_gtrL ?_) | (with_reducible refine x_geqL ?_) | (with_reducible refine s_neqL ?_) | (with_reducible refine St.load h ?_) | (with_reducible refine St.loadS h ?_) | (with_reducible refine a_fld0 ?_) | (with_reducible refine St.store h fun W h => ?_) | (with_reducible refine St.storeS h fun W h => ?_) | (with_reducible refine St.alloc h fun b W h => ?_) | (with_reducible refine St.allocS h fun b W h => ?_) | (with_reducible refine a_nil ?_) | (with_reducible refine ss_load ?_) | (with_reducible refine ss_loadS ?_) | (with_reducible refine ss_eqb ?_)))
  refine iff' ?_
  (repeat (first | (with_reducible refine ift ?_) | (with_reducible refine iff' ?_) | (with_reducible refine a_lss ?_) | (with_reducible refine a_leq ?_) | (with_reducible refine a_gtr ?_) | (with_reducible refine a_geq ?_) | (with_reducible refine w_eql ?_) | (with_reducible refine w_neq ?_) | (with_reducible refine s_eql ?_) | (with_reducible refine s_neq ?_) | ((with_reducible refine a_add64 ?h0 ?h1 ?_); (case h0 => omega); (case h1 => omega);  skip) | ((with_reducible refine a_sub64 ?h0 ?h1 ?_); (case h0 => omega); (case h1 => omega);  skip) | ((with_reducible refine a_mul64 ?h0 ?h1 ?_); (case h0 => omega); (case h1 => omega);  skip) | (with_reducible refine a_notd ?_) | (with_reducible refine a_not ?_) | (with_reducible refine a_ext0 ?_) | (with_reducible refine a_ext1 ?_) | (with_reducible refine a_ext2 ?_) | (with_reducible refine x_len ?_) | (with_reducible refine x_lens ?_) | (with_reducible refine x_eqb ?_) | (with_reducible refine x_neb ?_) | (with_reducible refine x_nilP ?_) | (with_reducible refine x_nilPn ?_) | (with_reducible refine x_nilF ?_) | (with_reducible refine x_nilFF ?_) | (with_reducible refine w_eqlL ?_) | (with_reducible refine w_neqL ?_) | (with_reducible refine s_eqlL ?_) | (with_reducible refine ifnt ?_) | (with_reducible refine ifnf ?_) | (with_reducible refine x_eqB ?_) | (with_reducible refine x_neB ?_) | (with_reducible refine x_lssL ?_) | (with_reducible refine x_gtrL ?_) | (with_reducible refine x_geqL ?_) | (with_reducible refine s_neqL ?_) | (with_reducible refine St.load h ?_) | (with_reducible refine St.loadS h ?_) | (with_reducible refine a_fld0 ?_) | (with_reducible refine St.store h fun W h => ?_) | (with_reducible refine St.storeS h fun W h => ?_) | (with_reducible refine St.alloc h fun b W h => ?_) | (with_reducible refine St.allocS h fun b W h => ?_) | (with_reducible refine a_nil ?_) | (with_reducible refine ss_load ?_) | (with_reducible refine ss_loadS ?_) | (with_reducible refine ss_eqb ?_)))
  refine iff' ?_
  have za : Mnss a W (.pointer (some ⟨ba, 0, none⟩)) := .inr (h.freeze (v := .pointer (some ⟨ba, 0, none⟩)))
  have zb : Mnss b W (.pointer (some ⟨bb, 0, none⟩)) := .inr (h.freeze (v := .pointer (some ⟨bb, 0, none⟩)))
  have hl := h.low
  have hdl := dff_le a b
  have rise := dff_rise ha hb
  have hfold := fold_dff ha hb
  clear h
  have h := St.start W
  have big : ∀ {r : List Ch}, r.length ≤ 1000 → r.take (1048576 : Int).toNat = r := fun hr => List.take_of_length_le (by show _ ≤ 1048576; omega)
  refine pairs21_spec (zb.below h.low) (by omega) fun vw W' ow h' => ?_
  replace h := h.frame1 h'
  clear h'
  refine ofss_spec za zb h (by omega) (by omega) fun f b1 b2 W' hI h => ?_
  refine ranged_spec (f := f) hI h (by omega) fun vc W' oc h => ?_
  rw [big (by omega)] at h
  refine fold_spec (za.below h.low) (h.osl (v := vc)) rfl (by omega) (by omega) fun c1 W' h' => ?_
  rw [hfold] at h'
  replace h := h.frame1 h'
  clear h'
  refine pairs21_spec (.inr (h.freeze (v := c1))) (by omega) fun p1 W' op1 h' => ?_
  replace h := h.frame1 h'
  clear h'
  refine prEq_spec (h.osl (v := p1)) rfl (h.osl (v := vw)) rfl (by omega) fun W' m => ?_
  replace h := h.ext m
  rw [decide_eq_true rfl]
  refine a_not (iff' ?_)
  refine countss_spec za za h (by omega) (by omega) fun W' h => ?_
  rw [dff_self]
  refine w_neq (ifd_neg (by simp) ?_)
  refine countss_spec zb zb h (by omega) (by omega) fun W' h => ?_
  rw [dff_self]
  refine w_neq (ifd_neg (by simp) ?_)
  -- from here on, facts alone
  have za' := za.below h.low
  have zb' := zb.below h.low
  have hw := h.osl (v := vw)
  have hl' := Below.next hl h.low
  clear h hl za zb hI
  refine jni (fun vs W' => ∃ c, vs = [.pointer (some ⟨ba, 0, none⟩), .pointer (some ⟨bb, 0, none⟩), vw, c] ∧ Below w.heap.size w W' ∧ Mnss a W' (.pointer (some ⟨ba, 0, none⟩)) ∧ Mnss b W' (.pointer (some ⟨bb, 0, none⟩)) ∧ Sl W' 2 vw b.length (pcells b) ∧ Mnss b W' c) ?_ ?_
  · clear hw hl' za' zb'
    rintro vs W _ ⟨c, rfl, hl, za, zb, hw, zc⟩
    refine app4 ?_
    have h := St.start W
    have fin : ∀ {l : List As} {W' : World}, St W G0 l W' → R (.bool true) W' := fun h => hR _ (Below.next hl h.low)
    have hd0 := dff_le ([] : List (Txt × Txt)) b
    have hd1 := dff_le a ([] : List (Txt × Txt))
    have hf0 := fold_dff (a := []) (b := b) List.Pairwise.nil hb
    have hn := dff_none ha
    simp only [List.length_nil] at hd0 hd1
    have z0 : ∀ W, Mnss [] W (.pointer none) := fun W => .inl ⟨rfl, rfl⟩
    refine ofss_spec (z0 W) zb h (Nat.zero_le _) (by omega) fun f b1 b2 W' hI h => ?_
    refine ranged_spec (f := f) hI h (by omega) fun vc W' oc h => ?_
    rw [big (by omega)] at h
    refine fold_spec (z0 W') (h.osl (v := vc)) rfl (Nat.zero_le _) (by omega) fun c1 W' h' => ?_
    rw [hf0] at h'
    replace h := h.frame1 h'
    clear h'
    refine first21_spec fun W' m => ?_
    replace h := h.ext m
    refine ift ?_
    refine pairs21_spec (zc.below h.low) (by omega) fun p1 W' op1 h' => ?_
    replace h := h.frame1 h'
    clear h'
    refine prEq_spec (h.osl (v := p1)) rfl (h.sl0 hw) rfl (by omega) fun W' m => ?_
    replace h := h.ext m
    rw [decide_eq_true rfl]
    refine ift ?_
    refine pairs21_spec (.inr (h.freeze (v := c1))) (by omega) fun p2 W' op2 h' => ?_
    replace h := h.frame1 h'
    clear h'
    refine prEq_spec (h.osl (v := p2)) rfl (h.sl0 hw) rfl (by omega) fun W' m => ?_
    replace h := h.ext m
    rw [decide_eq_true rfl]
    refine ift ?_
    refine countss_spec za (z0 W) h (by omega) (Nat.zero_le _) fun W' h => ?_
    refine pairs21_spec (za.below h.low) (by omega) fun p3 W' op3 h' => ?_
    replace h := h.frame1 h'
    clear h'
    refine x_lenS (h.osl (v := p3)) ?_
    refine w_eql ?_
    rw [hn, decide_eq_true rfl]
    exact fin h
  refine lpx (α := Value × Txt × Nat) (fun x => [x.1, strV x.2.1, nV .i64 x.2.2]) (fun x W' => x.2.2 * n ≤ (dff a b).length ∧ (0 < x.2.2 → x.2.2 * n < (dff a b).length ∧ ∃ d, (dff a b)[x.2.2 * n - 1]? = some d ∧ d.1 = x.2.1) ∧ Below w.heap.size w W' ∧ Mnss a W' (.pointer (some ⟨ba, 0, none⟩)) ∧ Mnss b W' (.pointer (some ⟨bb, 0, none⟩)) ∧ Sl W' 2 vw b.length (pcells b) ∧ Mnss (foldD a ((dff a b).take (x.2.2 * n))) W' x.1) (fun x => (dff a b).length - x.2.2) (.pointer (some ⟨ba, 0, none⟩), [], 0) (fun _ => rfl) rfl
    ⟨by rw [Nat.zero_mul]; exact Nat.zero_le _, fun h => absurd h (Nat.lt_irrefl _), hl', za', zb', hw, by rw [Nat.zero_mul]; exact za'⟩ ?_
  clear hw hl' za' zb'
  rintro next ⟨c, s, i⟩ W hnext ⟨hin, hi0, hl, za, zb, hw, zc⟩
  simp only at hin hi0 zc hnext ⊢
  refine app3 ?_
  have hile : i ≤ i * n := Nat.le_mul_of_pos_right i (by omega)
  refine a_lss (ifd_pos (by omega) ?_)
  have h9 := St.start W
  refine ofss_spec za zb h9 (by omega) (by omega) fun f b1 b2 W' hI h8 => ?_
  clear h9
  generalize hds : dff a b = ds at *
  refine jni (fun vs W' => ∃ f' A', vs = [nV .i64 n, .pointer (some ⟨ba, 0, none⟩), .pointer (some ⟨bb, 0, none⟩), vw, c, nV .i64 i, f'] ∧ Itr Try.prog W G0 f' (tellCss (ds.drop (i * n))) A' ∧ St W G0 [Ky f' A'] W') ?_ ?_
  · clear h8 hI
    rintro vs W' _ ⟨f, A, rfl, hI, h⟩
    refine app7 ?_
    refine some_spec (f := f) hI h (by rw [List.length_drop]; omega) fun vg W' og h => ?_
    refine a_ext0 (a_ext1 ?_)
    rw [Int.toNat_natCast] at h ⊢
    have hfl := foldD_len (ds.take (i * n)) a
    rw [List.length_take] at hfl
    refine fold_spec (zc.below h.low) (h.osl (v := vg)) rfl (by omega) (by rw [List.length_take, List.length_drop]; omega) fun c1 W' h' => ?_
    rw [← foldD_append, ← List.take_add] at h'
    replace h := h.frame1 h'
    clear h'
    refine a_not (ifnb (fun hm => ?_) fun hm => ?_)
    · have hm := of_decide_eq_false hm
      rw [List.length_drop] at hm
      have e : foldD a (ds.take (i * n + n)) = b := by rw [List.take_of_length_le (by omega)]; exact hfold
      rw [e] at h
      exact ⟨c1, rfl, Below.next hl h.low, za.below h.low, zb.below h.low, h.sl0 hw, .inr (h.freeze (v := c1))⟩
    · have hm := of_decide_eq_true hm
      have htl : ((ds.drop (i * n)).take n).length = n := by rw [List.length_take]; omega
      rw [List.length_drop] at hm
      have hmul : (i + 1) * n = i * n + n := Nat.succ_mul i n
      refine x_lenS (h.osl (v := vg)) ?_
      refine w_neq (ifd_neg (by omega) ?_)
      refine a_sub64 (by omega) (by omega) ?_
      rw [show ((n : Int) - 1) = ((n - 1 : Nat) : Int) by omega]
      obtain ⟨d, hd⟩ : ∃ d, ds[i * n + (n - 1)]? = some d := ⟨_, List.getElem?_eq_getElem (by omega)⟩
      have hd' : ((ds.drop (i * n)).take n)[n - 1]? = some d := by rw [List.getElem?_take_of_lt (by omega), List.getElem?_drop]; exact hd
      refine x_fld (h.osl (v := vg)) (by omega) (by decide) ((ccells_get hd' (by decide)).trans rfl) ?_
      refine a_add64 (by omega) (by omega) ⟨rfl, rfl, rfl, rfl, ?_⟩
      rw [show ((i : Int) + 1) = ((i + 1 : Nat) : Int) by push_cast; rfl]
      refine hnext (c1, d.1, i + 1) W' (by simp only; omega) ⟨by simp only; omega, fun _ => ⟨by simp only; omega, d, ?_, rfl⟩, Below.next hl h.low, za.below h.low, zb.below h.low, h.sl0 hw, ?_⟩
      · simp only
        rw [hmul, show i * n + n - 1 = i * n + (n - 1) by omega]; exact hd
      · simp only
        rw [hmul]
        exact .inr (h.freeze (v := c1))
  refine a_gtr (ifd (fun hg => ?_) fun hg => ?_)
  · obtain ⟨h1, d, hd, hds1⟩ := hi0 (by omega)
    rw [← hds1]
    refine after_spec (f := f) (s := d.1) hI h8 fun f' b3 b4 W' hI' h => ?_
    have hpos : 0 < i * n := Nat.mul_pos (by omega) (by omega)
    rw [aft_drop rise hd, show i * n - 1 + 1 = i * n by omega] at hI'
    exact ⟨f', _, rfl, hI', h⟩
  · have hi00 : i = 0 := by omega
    subst hi00
    refine ⟨f, _, rfl, ?_, h8⟩
    rw [Nat.zero_mul, List.drop_zero]
    exact hI
end
end Go.Proofs.Ytdjgchofnkancaa
