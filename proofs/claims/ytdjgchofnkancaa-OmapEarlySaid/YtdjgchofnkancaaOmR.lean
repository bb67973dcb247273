/-
  ROWS: the document's map: found, put, taken away, told: what each function answers.
-/
import Derived.Test.YtdjgchofnkancaaOmF
import Derived.Test.YtdjgchofnkancaaOmH
namespace Go.Proofs.Ytdjgchofnkancaa
open Go Go.Ez Go.RowKit
set_option linter.unusedSimpArgs false
set_option linter.unusedVariables false

/-- the document's map of these pairs -/
abbrev Mx (m : List (Int × Txt)) : Value → As := MpX 60 80 m

section
variable {w0 W : World} {G : Nat → Prop} {l R : List As} {m : List (Int × Txt)} {v : Value} {RR : Value → World → Prop}

theorem rfind_spec [i : Has l v (Mx m) R] (h : St w0 G l W) {k : Int} (hl : m.length ≤ 1000000000) (kk : ∀ W', Below W.heap.size W W' → RR (.tuple #[nV .i64 (posK k m), .bool (hasK k m)]) W') :
    CallF Try.prog 49 #[v, .int .i64 k] W RR := by
  refine sh49_calls ?_
  unfold sh49
  obtain ⟨b, sl, rfl, hs, o, h⟩ := h.openM (v := v)
  have hp := posK_le k m
  refine jni (fun vs W' => vs = [.pointer (some ⟨b, 0, none⟩), .int .i64 k, nV .i64 (posK k m)] ∧ W' = W) ?_ ?_
  · rintro vs W' _ ⟨rfl, rfl⟩
    refine app3 ?_
    refine ⟨St w0 G _, h.drew, ?_⟩
    have hR := h.drew
    (repeat (first | (with_reducible refine ift ?_) | (with_reducible refine iff' ?_) | (with_reducible refine a_lss ?_) | (with_reducible refine a_leq ?_) | (with_reducible refine a_gtr ?_) | (with_reducible refine a_geq ?_) | (with_reducible refine w_eql ?_) | (with_reducible refine w_neq ?_) | (with_reducible refine s_eql ?_) | (with_reducible refine s_neq ?_) | ((with_reducible refine a_add64 ?h0 ?h1 ?_); (case h0 => omega); (case h1 => omega);  skip) | ((with_reducible refine a_sub64 ?h0 ?h1 ?_); (case h0 => omega); (case h1 => omega);  skip) | ((with_reducible refine a_mul64 ?h0 ?h1 ?_); (case h0 => omega); (case h1 => omega);  skip) | (with_reducible refine a_notd ?_) | (with_reducible refine a_not ?_) | (with_reducible refine a_ext0 ?_) | (with_reducible refine a_ext1 ?_) | (with_reducible refine a_ext2 ?_) | (with_reducible refine x_len ?_) | (with_reducible refine x_lens ?_) | (with_reducible refine x_eqb ?_) | (with_reducible refine x_neb ?_) | (with_reducible refine x_nilP ?_) | (with_reducible refine x_nilPn ?_) | (with_reducible refine x_nilF ?_) | (with_reducible refine x_nilFF ?_) | (with_reducible refine w_eqlL ?_) | (with_reducible refine w_neqL ?_) | (with_reducible refine s_eqlL ?_) | (with_reducible refine ifnt ?_) | (with_reducible refine ifnf ?_) | (with_reducible refine x_eqB ?_) | (with_reducible refine x_neB ?_) | (with_reducible refine x_lssL ?_) | (with_reducible refine x_gtrL ?_) | (with_reducible refine x_geqL ?_) | (with_reducible refine s_neqL ?_) | (with_reducible refine St.load h ?_) | (with_reducible refine St.loadS h ?_) | (with_reducible refine a_fld0 ?_) | (with_reducible refine St.store h fun W h => ?_) | (with_reducible refine St.storeS h fun W h => ?_) | (with_reducible refine St.alloc h fun b W h => ?_) | (with_reducible refine St.allocS h fun b W h => ?_) | (with_reducible refine a_nil ?_) | (with_reducible refine ss_load ?_) | (with_reducible refine ss_loadS ?_) | (with_reducible refine ss_eqb ?_)))
    refine x_lenSs (h.osl (v := sl)) ?_
    refine a_lss (ifd (fun hc => ?_) fun hc => ?_)
    · obtain ⟨p, hpq⟩ : ∃ p, m[posK k m]? = some p := ⟨_, List.getElem?_eq_getElem (by omega)⟩
      (repeat (first | (with_reducible refine ift ?_) | (with_reducible refine iff' ?_) | (with_reducible refine a_lss ?_) | (with_reducible refine a_leq ?_) | (with_reducible refine a_gtr ?_) | (with_reducible refine a_geq ?_) | (with_reducible refine w_eql ?_) | (with_reducible refine w_neq ?_) | (with_reducible refine s_eql ?_) | (with_reducible refine s_neq ?_) | ((with_reducible refine a_add64 ?h0 ?h1 ?_); (case h0 => omega); (case h1 => omega);  skip) | ((with_reducible refine a_sub64 ?h0 ?h1 ?_); (case h0 => omega); (case h1 => omega);  skip) | ((with_reducible refine a_mul64 ?h0 ?h1 ?_); (case h0 => omega); (case h1 => omega);  skip) | (with_reducible refine a_notd ?_) | (with_reducible refine a_not ?_) | (with_reducible refine a_ext0 ?_) | (with_reducible refine a_ext1 ?_) | (with_reducible refine a_ext2 ?_) | (with_reducible refine x_len ?_) | (with_reducible refine x_lens ?_) | (with_reducible refine x_eqb ?_) | (with_reducible refine x_neb ?_) | (with_reducible refine x_nilP ?_) | (with_reducible refine x_nilPn ?_) | (with_reducible refine x_nilF ?_) | (with_reducible refine x_nilFF ?_) | (with_reducible refine w_eqlL ?_) | (with_reducible refine w_neqL ?_) | (with_reducible refine s_eqlL ?_) | (with_reducible refine ifnt ?_) | (with_reducible refine ifnf ?_) | (with_reducible refine x_eqB ?_) | (with_reducible refine x_neB ?_) | (with_reducible refine x_lssL ?_) | (with_reducible refine x_gtrL ?_) | (with_reducible refine x_geqL ?_) | (with_reducible refine s_neqL ?_) | (with_reducible refine St.load h ?_) | (with_reducible refine St.loadS h ?_) | (with_reducible refine a_fld0 ?_) | (with_reducible refine St.store h fun W h => ?_) | (with_reducible refine St.storeS h fun W h => ?_) | (with_reducible refine St.alloc h fun b W h => ?_) | (with_reducible refine St.allocS h fun b W h => ?_) | (with_reducible refine a_nil ?_) | (with_reducible refine ss_load ?_) | (with_reducible refine ss_loadS ?_) | (with_reducible refine ss_eqb ?_)))
      refine x_sfld (w1 := W') (h.osl (v := sl)) (fun w hw => hw.osl (v := sl)) (by omega) (by decide) (pcells_get hpq).1 ?_
      refine s_eql ?_
      have : decide (p.1 = k) = hasK k m := by unfold hasK; rw [hpq]
      rw [this]
      exact kk _ (Below.refl _ _).drew
    · have : hasK k m = false := by unfold hasK; rw [List.getElem?_eq_none (by omega)]
      have hh := kk _ (Below.refl _ W').drew
      rw [this] at hh
      exact hh
  · refine lpx (α := Nat) (fun i => [nV .i64 i]) (fun i W' => W' = W ∧ i ≤ posK k m) (fun i => m.length - i) 0 (fun _ => rfl) rfl ⟨rfl, Nat.zero_le _⟩ ?_
    rintro next i W' hnext ⟨rfl, hi⟩
    refine app1 ?_
    (repeat (first | (with_reducible refine ift ?_) | (with_reducible refine iff' ?_) | (with_reducible refine a_lss ?_) | (with_reducible refine a_leq ?_) | (with_reducible refine a_gtr ?_) | (with_reducible refine a_geq ?_) | (with_reducible refine w_eql ?_) | (with_reducible refine w_neq ?_) | (with_reducible refine s_eql ?_) | (with_reducible refine s_neq ?_) | ((with_reducible refine a_add64 ?h0 ?h1 ?_); (case h0 => omega); (case h1 => omega);  skip) | ((with_reducible refine a_sub64 ?h0 ?h1 ?_); (case h0 => omega); (case h1 => omega);  skip) | ((with_reducible refine a_mul64 ?h0 ?h1 ?_); (case h0 => omega); (case h1 => omega);  skip) | (with_reducible refine a_notd ?_) | (with_reducible refine a_not ?_) | (with_reducible refine a_ext0 ?_) | (with_reducible refine a_ext1 ?_) | (with_reducible refine a_ext2 ?_) | (with_reducible refine x_len ?_) | (with_reducible refine x_lens ?_) | (with_reducible refine x_eqb ?_) | (with_reducible refine x_neb ?_) | (with_reducible refine x_nilP ?_) | (with_reducible refine x_nilPn ?_) | (with_reducible refine x_nilF ?_) | (with_reducible refine x_nilFF ?_) | (with_reducible refine w_eqlL ?_) | (with_reducible refine w_neqL ?_) | (with_reducible refine s_eqlL ?_) | (with_reducible refine ifnt ?_) | (with_reducible refine ifnf ?_) | (with_reducible refine x_eqB ?_) | (with_reducible refine x_neB ?_) | (with_reducible refine x_lssL ?_) | (with_reducible refine x_gtrL ?_) | (with_reducible refine x_geqL ?_) | (with_reducible refine s_neqL ?_) | (with_reducible refine St.load h ?_) | (with_reducible refine St.loadS h ?_) | (with_reducible refine a_fld0 ?_) | (with_reducible refine St.store h fun W h => ?_) | (with_reducible refine St.storeS h fun W h => ?_) | (with_reducible refine St.alloc h fun b W h => ?_) | (with_reducible refine St.allocS h fun b W h => ?_) | (with_reducible refine a_nil ?_) | (with_reducible refine ss_load ?_) | (with_reducible refine ss_loadS ?_) | (with_reducible refine ss_eqb ?_)))
    refine x_lenS (h.osl (v := sl)) ?_
    refine a_lss (ifd (fun hc => ?_) fun hc => ?_)
    · obtain ⟨p, hpq⟩ : ∃ p, m[i]? = some p := ⟨_, List.getElem?_eq_getElem (by omega)⟩
      have hiff := posK_iff (k := k) hs hpq
      (repeat (first | (with_reducible refine ift ?_) | (with_reducible refine iff' ?_) | (with_reducible refine a_lss ?_) | (with_reducible refine a_leq ?_) | (with_reducible refine a_gtr ?_) | (with_reducible refine a_geq ?_) | (with_reducible refine w_eql ?_) | (with_reducible refine w_neq ?_) | (with_reducible refine s_eql ?_) | (with_reducible refine s_neq ?_) | ((with_reducible refine a_add64 ?h0 ?h1 ?_); (case h0 => omega); (case h1 => omega);  skip) | ((with_reducible refine a_sub64 ?h0 ?h1 ?_); (case h0 => omega); (case h1 => omega);  skip) | ((with_reducible refine a_mul64 ?h0 ?h1 ?_); (case h0 => omega); (case h1 => omega);  skip) | (with_reducible refine a_notd ?_) | (with_reducible refine a_not ?_) | (with_reducible refine a_ext0 ?_) | (with_reducible refine a_ext1 ?_) | (with_reducible refine a_ext2 ?_) | (with_reducible refine x_len ?_) | (with_reducible refine x_lens ?_) | (with_reducible refine x_eqb ?_) | (with_reducible refine x_neb ?_) | (with_reducible refine x_nilP ?_) | (with_reducible refine x_nilPn ?_) | (with_reducible refine x_nilF ?_) | (with_reducible refine x_nilFF ?_) | (with_reducible refine w_eqlL ?_) | (with_reducible refine w_neqL ?_) | (with_reducible refine s_eqlL ?_) | (with_reducible refine ifnt ?_) | (with_reducible refine ifnf ?_) | (with_reducible refine x_eqB ?_) | (with_reducible refine x_neB ?_) | (with_reducible refine x_lssL ?_) | (with_reducible refine x_gtrL ?_) | (with_reducible refine x_geqL ?_) | (with_reducible refine s_neqL ?_) | (with_reducible refine St.load h ?_) | (with_reducible refine St.loadS h ?_) | (with_reducible refine a_fld0 ?_) | (with_reducible refine St.store h fun W h => ?_) | (with_reducible refine St.storeS h fun W h => ?_) | (with_reducible refine St.alloc h fun b W h => ?_) | (with_reducible refine St.allocS h fun b W h => ?_) | (with_reducible refine a_nil ?_) | (with_reducible refine ss_load ?_) | (with_reducible refine ss_loadS ?_) | (with_reducible refine ss_eqb ?_)))
      refine x_fld (h.osl (v := sl)) (by omega) (by decide) (pcells_get hpq).1 ?_
      refine a_lss (ifd (fun hc => ?_) fun hc => ?_)
      · have := hiff.1 (decide_eq_true hc)
        refine a_add64 (by omega) (by omega) ⟨rfl, rfl, ?_⟩
        rw [show ((i : Int) + 1) = ((i + 1 : Nat) : Int) by push_cast; rfl]
        exact hnext (i + 1) W' (by omega) ⟨rfl, by omega⟩
      · have : ¬ i < posK k m := fun hx => hc (of_decide_eq_true (hiff.2 hx))
        obtain rfl : i = posK k m := by omega
        exact ⟨rfl, rfl⟩
    · obtain rfl : i = posK k m := by omega
      exact ⟨rfl, rfl⟩

theorem rput_spec [i : Has l v (Mx m) R] (h : St w0 G l W) {k : Int} {x : Txt} (hl : m.length ≤ 1000000) (kk : ∀ W', St w0 G (Ky v (Mx (putK k x m)) :: R) W' → RR (.bool (!hasK k m)) W') :
    CallF Try.prog 32 #[v, .int .i64 k, .string ⟨x.toArray⟩] W RR := by
  refine sh32_calls ?_
  unfold sh32
  refine rfind_spec h (by omega) fun W hb => ?_
  replace h := h.ext hb
  obtain ⟨b, sl, rfl, hs, o, h⟩ := h.openM (v := v)
  have hp := posK_le k m
  have hpl := pcells_length m
  refine a_ext0 (a_ext1 ?_)
  refine ifb (fun hh => ?_) fun hh => ?_
  · obtain ⟨u, hu⟩ := hasK_spec.1 hh
    have hil := (List.getElem?_eq_some_iff.1 hu).1
    (repeat (first | (with_reducible refine ift ?_) | (with_reducible refine iff' ?_) | (with_reducible refine a_lss ?_) | (with_reducible refine a_leq ?_) | (with_reducible refine a_gtr ?_) | (with_reducible refine a_geq ?_) | (with_reducible refine w_eql ?_) | (with_reducible refine w_neq ?_) | (with_reducible refine s_eql ?_) | (with_reducible refine s_neq ?_) | ((with_reducible refine a_add64 ?h0 ?h1 ?_); (case h0 => omega); (case h1 => omega);  skip) | ((with_reducible refine a_sub64 ?h0 ?h1 ?_); (case h0 => omega); (case h1 => omega);  skip) | ((with_reducible refine a_mul64 ?h0 ?h1 ?_); (case h0 => omega); (case h1 => omega);  skip) | (with_reducible refine a_notd ?_) | (with_reducible refine a_not ?_) | (with_reducible refine a_ext0 ?_) | (with_reducible refine a_ext1 ?_) | (with_reducible refine a_ext2 ?_) | (with_reducible refine x_len ?_) | (with_reducible refine x_lens ?_) | (with_reducible refine x_eqb ?_) | (with_reducible refine x_neb ?_) | (with_reducible refine x_nilP ?_) | (with_reducible refine x_nilPn ?_) | (with_reducible refine x_nilF ?_) | (with_reducible refine x_nilFF ?_) | (with_reducible refine w_eqlL ?_) | (with_reducible refine w_neqL ?_) | (with_reducible refine s_eqlL ?_) | (with_reducible refine ifnt ?_) | (with_reducible refine ifnf ?_) | (with_reducible refine x_eqB ?_) | (with_reducible refine x_neB ?_) | (with_reducible refine x_lssL ?_) | (with_reducible refine x_gtrL ?_) | (with_reducible refine x_geqL ?_) | (with_reducible refine s_neqL ?_) | (with_reducible refine St.load h ?_) | (with_reducible refine St.loadS h ?_) | (with_reducible refine a_fld0 ?_) | (with_reducible refine St.store h fun W h => ?_) | (with_reducible refine St.storeS h fun W h => ?_) | (with_reducible refine St.alloc h fun b W h => ?_) | (with_reducible refine St.allocS h fun b W h => ?_) | (with_reducible refine a_nil ?_) | (with_reducible refine ss_load ?_) | (with_reducible refine ss_loadS ?_) | (with_reducible refine ss_eqb ?_)))
    refine h.setI (v := sl) hil fun g cap hsl _ => ?_
    subst hsl
    refine a_fld ?_
    refine h.storeI (n := m.length) (cap := cap) (sz := 2) (q := posK k m * 2 + 1) (by omega) fun W h => ?_
    rw [hh] at kk
    refine kk W (h.shutM (b := b) (sl := .slice (some ⟨g, 0, none⟩) m.length cap) (srt_put hs) ?_ ?_)
    · unfold putK; rw [if_pos hh]; simp
    · unfold putK; rw [if_pos hh]; exact (pcells_set hu).symm
  · refine ⟨fun W' => Rec W' b 60 [sl], h.drew.rc, ?_⟩
    replace h := h.drew
    refine a_nil (a_fld0 ?_)
    refine s_ld (t := 60) (cs := [sl]) (fun w hw => hw) rfl ?_
    refine x_cutOw (v := sl) h hp ?_
    refine a_nil (a_fld0 ?_)
    refine s_ld (t := 60) (cs := [sl]) (fun w hw => hw) rfl ?_
    refine x_cutRd (h.osl (v := sl)) hp fun t hts => ?_
    refine x_bld (cells := #[.int .i64 k, .string ⟨x.toArray⟩]) rfl ⟨h.rc, ?_⟩
    refine h.litB (vs := [.agg [.int .i64 k, .string ⟨x.toArray⟩].toArray]) (fun t1 W1 o1 m1 h1 => ?_) (by decide)
    refine ⟨h1.rc, ?_⟩
    refine St.app (v := t1) h1 (hts.below m1) (fun c hc => pcells_one m c (List.mem_of_mem_drop hc)) (by unfold maxLen; omega) (by omega) fun t2 W2 o2 h2 _ => ?_
    refine ⟨h2.rc, ?_⟩
    replace h2 := (St.find (k := sl) (X := Ow 80 2 m.length (pcells m)) h2).cutOw (v := sl) hp
    refine St.app (v := cutV sl (posK k m)) h2 (h2.osl (v := t2)) (fun c hc => ?_) (by unfold maxLen; omega) (by omega) fun t3 W3 o3 h => ?_
    · rcases List.mem_append.1 hc with hc | hc
      · simp only [List.mem_cons, List.not_mem_nil, or_false] at hc
        rcases hc with rfl | rfl <;> rfl
      · exact pcells_one m c (List.mem_of_mem_drop hc)
    · intro _
      (repeat (first | (with_reducible refine ift ?_) | (with_reducible refine iff' ?_) | (with_reducible refine a_lss ?_) | (with_reducible refine a_leq ?_) | (with_reducible refine a_gtr ?_) | (with_reducible refine a_geq ?_) | (with_reducible refine w_eql ?_) | (with_reducible refine w_neq ?_) | (with_reducible refine s_eql ?_) | (with_reducible refine s_neq ?_) | ((with_reducible refine a_add64 ?h0 ?h1 ?_); (case h0 => omega); (case h1 => omega);  skip) | ((with_reducible refine a_sub64 ?h0 ?h1 ?_); (case h0 => omega); (case h1 => omega);  skip) | ((with_reducible refine a_mul64 ?h0 ?h1 ?_); (case h0 => omega); (case h1 => omega);  skip) | (with_reducible refine a_notd ?_) | (with_reducible refine a_not ?_) | (with_reducible refine a_ext0 ?_) | (with_reducible refine a_ext1 ?_) | (with_reducible refine a_ext2 ?_) | (with_reducible refine x_len ?_) | (with_reducible refine x_lens ?_) | (with_reducible refine x_eqb ?_) | (with_reducible refine x_neb ?_) | (with_reducible refine x_nilP ?_) | (with_reducible refine x_nilPn ?_) | (with_reducible refine x_nilF ?_) | (with_reducible refine x_nilFF ?_) | (with_reducible refine w_eqlL ?_) | (with_reducible refine w_neqL ?_) | (with_reducible refine s_eqlL ?_) | (with_reducible refine ifnt ?_) | (with_reducible refine ifnf ?_) | (with_reducible refine x_eqB ?_) | (with_reducible refine x_neB ?_) | (with_reducible refine x_lssL ?_) | (with_reducible refine x_gtrL ?_) | (with_reducible refine x_geqL ?_) | (with_reducible refine s_neqL ?_) | (with_reducible refine St.load h ?_) | (with_reducible refine St.loadS h ?_) | (with_reducible refine a_fld0 ?_) | (with_reducible refine St.store h fun W h => ?_) | (with_reducible refine St.storeS h fun W h => ?_) | (with_reducible refine St.alloc h fun b W h => ?_) | (with_reducible refine St.allocS h fun b W h => ?_) | (with_reducible refine a_nil ?_) | (with_reducible refine ss_load ?_) | (with_reducible refine ss_loadS ?_) | (with_reducible refine ss_eqb ?_)))
      rw [hh] at kk
      refine kk _ (St.to (h.shutM (b := b) (sl := t3) (m := putK k x m) (srt_put hs) ?_ ?_))
      · unfold putK; rw [hh]; simp [List.length_take, List.length_drop]; omega
      · unfold putK
        rw [hh, if_neg (by simp), pcells_append, pcells_take, show pcells ((k, x) :: m.drop (posK k m)) = [Enc.enc k, Enc.enc x] ++ pcells (m.drop (posK k m)) from rfl, pcells_drop]
        rfl

theorem rdel_spec [i : Has l v (Mx m) R] (h : St w0 G l W) {k : Int} (hl : m.length ≤ 1000000) (kk : ∀ W', St w0 G (Ky v (Mx (delK k m)) :: R) W' → RR (.bool (hasK k m)) W') :
    CallF Try.prog 47 #[v, .int .i64 k] W RR := by
  refine sh47_calls ?_
  unfold sh47
  refine rfind_spec h (by omega) fun W hb => ?_
  replace h := h.ext hb
  obtain ⟨b, sl, rfl, hs, o, h⟩ := h.openM (v := v)
  have hp := posK_le k m
  have hpl := pcells_length m
  refine a_ext0 (a_ext1 ?_)
  refine jni (fun vs W => vs = [.bool (hasK k m)] ∧ St w0 G (Ky (.pointer (some ⟨b, 0, none⟩)) (Mx (delK k m)) :: R) W) ?_ ?_
  · rintro vs W' _ ⟨rfl, h⟩
    exact app1 (kk W' h)
  refine ifb (fun hh => ?_) fun hh => ?_
  · obtain ⟨u, hu⟩ := hasK_spec.1 hh
    have hil := (List.getElem?_eq_some_iff.1 hu).1
    rcases own_block_some (h.ow (v := sl)) with ⟨_, h0, _⟩ | ⟨g, cap, rfl, hnc⟩
    · omega
    have hcap : cap ≤ 9223372036854775807 := by
      rcases (h.ow (v := .slice (some ⟨g, 0, none⟩) m.length cap)).2 with ⟨h0, _⟩ | ⟨g', c', cur, h0, _, _, _, hm, _⟩
      · cases h0
      · cases h0; unfold maxLen at hm; exact hm
    refine ⟨fun W' => Rec W' b 60 [.slice (some ⟨g, 0, none⟩) m.length cap], h.drew.rc, ?_⟩
    replace h := h.drew
    refine a_nil (a_fld0 ?_)
    refine s_ld (t := 60) (cs := [.slice (some ⟨g, 0, none⟩) m.length cap]) (fun w hw => hw) rfl ?_
    refine x_slH (by omega) ?_
    refine a_nil (a_fld0 ?_)
    refine s_ld (t := 60) (cs := [.slice (some ⟨g, 0, none⟩) m.length cap]) (fun w hw => hw) rfl ?_
    refine a_add64 (by omega) (by omega) ?_
    rw [show ((posK k m : Int) + 1) = ((posK k m + 1 : Nat) : Int) by push_cast; rfl]
    refine x_slL (by omega) ?_
    refine h.cutOut (n := m.length) (i := posK k m) (j := posK k m + 1) (by omega) (by omega) (pcells_one m) fun W h => ?_
    (repeat (first | (with_reducible refine ift ?_) | (with_reducible refine iff' ?_) | (with_reducible refine a_lss ?_) | (with_reducible refine a_leq ?_) | (with_reducible refine a_gtr ?_) | (with_reducible refine a_geq ?_) | (with_reducible refine w_eql ?_) | (with_reducible refine w_neq ?_) | (with_reducible refine s_eql ?_) | (with_reducible refine s_neq ?_) | ((with_reducible refine a_add64 ?h0 ?h1 ?_); (case h0 => omega); (case h1 => omega);  skip) | ((with_reducible refine a_sub64 ?h0 ?h1 ?_); (case h0 => omega); (case h1 => omega);  skip) | ((with_reducible refine a_mul64 ?h0 ?h1 ?_); (case h0 => omega); (case h1 => omega);  skip) | (with_reducible refine a_notd ?_) | (with_reducible refine a_not ?_) | (with_reducible refine a_ext0 ?_) | (with_reducible refine a_ext1 ?_) | (with_reducible refine a_ext2 ?_) | (with_reducible refine x_len ?_) | (with_reducible refine x_lens ?_) | (with_reducible refine x_eqb ?_) | (with_reducible refine x_neb ?_) | (with_reducible refine x_nilP ?_) | (with_reducible refine x_nilPn ?_) | (with_reducible refine x_nilF ?_) | (with_reducible refine x_nilFF ?_) | (with_reducible refine w_eqlL ?_) | (with_reducible refine w_neqL ?_) | (with_reducible refine s_eqlL ?_) | (with_reducible refine ifnt ?_) | (with_reducible refine ifnf ?_) | (with_reducible refine x_eqB ?_) | (with_reducible refine x_neB ?_) | (with_reducible refine x_lssL ?_) | (with_reducible refine x_gtrL ?_) | (with_reducible refine x_geqL ?_) | (with_reducible refine s_neqL ?_) | (with_reducible refine St.load h ?_) | (with_reducible refine St.loadS h ?_) | (with_reducible refine a_fld0 ?_) | (with_reducible refine St.store h fun W h => ?_) | (with_reducible refine St.storeS h fun W h => ?_) | (with_reducible refine St.alloc h fun b W h => ?_) | (with_reducible refine St.allocS h fun b W h => ?_) | (with_reducible refine a_nil ?_) | (with_reducible refine ss_load ?_) | (with_reducible refine ss_loadS ?_) | (with_reducible refine ss_eqb ?_)))
    refine ⟨by rw [hh], h.shutM (b := b) (sl := .slice (some ⟨g, 0, none⟩) (posK k m + (m.length - (posK k m + 1))) cap) (srt_del hs) ?_ ?_⟩
    · unfold delK; rw [if_pos hh]; simp [List.length_take, List.length_drop]; omega
    · unfold delK; rw [if_pos hh, pcells_append, pcells_take, pcells_drop]
  · refine ⟨by rw [hh], ?_⟩
    have e : delK k m = m := by unfold delK; rw [hh]; rfl
    rw [e]
    exact h.shutM (b := b) (sl := sl) hs rfl rfl
end
end Go.Proofs.Ytdjgchofnkancaa
