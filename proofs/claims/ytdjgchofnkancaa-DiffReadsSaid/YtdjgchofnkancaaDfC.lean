/-
  DIFFERENCES: pairs told and held against others, some changes, those behind a key, changes put on: what each function answers.
-/
import Derived.Test.YtdjgchofnkancaaDfB
import Derived.Test.YtdjgchofnkancaaOmDss
namespace Go.Proofs.Ytdjgchofnkancaa
open Go Go.Ez Go.RowKit
set_option linter.unusedSimpArgs false
set_option linter.unusedVariables false

section
variable {w0 W : World} {l R : List As} {RR : Value → World → Prop}

/-- what Pairs has taken -/
def PaC (bl : Nat) (m : List (Txt × Txt)) (i : Nat) : As := As.ex fun v : Value => As.all True [Ky bl (Ob (.cells [v].toArray 83 (0, 0))), Ky v (Ow 136 2 i (pcells (m.take i)))]

/-- hbllaw21.Pairs -/
theorem pairs21_spec {m : List (Txt × Txt)} {v : Value} (hz : Mnss m W v) (hl : m.length ≤ 100000) (k : ∀ v' W', Cel1 v' → St W G0 [Ky v' (Ow 136 2 m.length (pcells m))] W' → RR v' W') :
    CallF Try.prog 61 #[v] W RR := by
  refine sh61_calls ?_
  unfold sh61
  have h := St.start W
  refine h.alloc fun bl W' h => ?_
  rcases hz with ⟨rfl, rfl⟩ | hz
  · (repeat (first | (with_reducible refine ift ?_) | (with_reducible refine iff' ?_) | (with_reducible refine a_lss ?_) | (with_reducible refine a_leq ?_) | (with_reducible refine a_gtr ?_) | (with_reducible refine a_geq ?_) | (with_reducible refine w_eql ?_) | (with_reducible refine w_neq ?_) | (with_reducible refine s_eql ?_) | (with_reducible refine s_neq ?_) | ((with_reducible refine a_add64 ?h0 ?h1 ?_); (case h0 => omega); (case h1 => omega);  skip) | ((with_reducible refine a_sub64 ?h0 ?h1 ?_); (case h0 => omega); (case h1 => omega);  skip) | ((with_reducible refine a_mul64 ?h0 ?h1 ?_); (case h0 => omega); (case h1 => omega);  skip) | (with_reducible refine a_notd ?_) | (with_reducible refine a_not ?_) | (with_reducible refine a_ext0 ?_) | (with_reducible refine a_ext1 ?_) | (with_reducible refine a_ext2 ?_) | (with_reducible refine x_len ?_) | (with_reducible refine x_lens ?_) | (with_reducible refine x_eqb ?_) | (with_reducible refine x_neb ?_) | (with_reducible refine x_nilP ?_) | (with_reducible refine x_nilPn ?_) | (with_reducible refine x_nilF ?_) | (with_reducible refine x_nilFF ?_) | (with_reducible refine w_eqlL ?_) | (with_reducible refine w_neqL ?_) | (with_reducible refine s_eqlL ?_) | (with_reducible refine ifnt ?_) | (with_reducible refine ifnf ?_) | (with_reducible refine x_eqB ?_) | (with_reducible refine x_neB ?_) | (with_reducible refine x_lssL ?_) | (with_reducible refine x_gtrL ?_) | (with_reducible refine x_geqL ?_) | (with_reducible refine s_neqL ?_) | (with_reducible refine St.load h ?_) | (with_reducible refine St.loadS h ?_) | (with_reducible refine a_fld0 ?_) | (with_reducible refine St.store h fun W h => ?_) | (with_reducible refine St.storeS h fun W h => ?_) | (with_reducible refine St.alloc h fun b W h => ?_) | (with_reducible refine St.allocS h fun b W h => ?_) | (with_reducible refine a_nil ?_) | (with_reducible refine ss_load ?_) | (with_reducible refine ss_loadS ?_) | (with_reducible refine ss_eqb ?_)))
    refine ift ?_
    have h' : St W G0 (Ky (.slice none 0 0 : Value) (Ow 136 2 0 []) :: _) W' := h.nilOw
    have h2 : St W G0 [Ky (.slice none 0 0 : Value) (Ow 136 2 0 [])] W' := h'.to
    exact k _ W' ⟨rfl⟩ h2
  obtain ⟨b, sl, rfl, hrest⟩ := id hz
  (repeat (first | (with_reducible refine ift ?_) | (with_reducible refine iff' ?_) | (with_reducible refine a_lss ?_) | (with_reducible refine a_leq ?_) | (with_reducible refine a_gtr ?_) | (with_reducible refine a_geq ?_) | (with_reducible refine w_eql ?_) | (with_reducible refine w_neq ?_) | (with_reducible refine s_eql ?_) | (with_reducible refine s_neq ?_) | ((with_reducible refine a_add64 ?h0 ?h1 ?_); (case h0 => omega); (case h1 => omega);  skip) | ((with_reducible refine a_sub64 ?h0 ?h1 ?_); (case h0 => omega); (case h1 => omega);  skip) | ((with_reducible refine a_mul64 ?h0 ?h1 ?_); (case h0 => omega); (case h1 => omega);  skip) | (with_reducible refine a_notd ?_) | (with_reducible refine a_not ?_) | (with_reducible refine a_ext0 ?_) | (with_reducible refine a_ext1 ?_) | (with_reducible refine a_ext2 ?_) | (with_reducible refine x_len ?_) | (with_reducible refine x_lens ?_) | (with_reducible refine x_eqb ?_) | (with_reducible refine x_neb ?_) | (with_reducible refine x_nilP ?_) | (with_reducible refine x_nilPn ?_) | (with_reducible refine x_nilF ?_) | (with_reducible refine x_nilFF ?_) | (with_reducible refine w_eqlL ?_) | (with_reducible refine w_neqL ?_) | (with_reducible refine s_eqlL ?_) | (with_reducible refine ifnt ?_) | (with_reducible refine ifnf ?_) | (with_reducible refine x_eqB ?_) | (with_reducible refine x_neB ?_) | (with_reducible refine x_lssL ?_) | (with_reducible refine x_gtrL ?_) | (with_reducible refine x_geqL ?_) | (with_reducible refine s_neqL ?_) | (with_reducible refine St.load h ?_) | (with_reducible refine St.loadS h ?_) | (with_reducible refine a_fld0 ?_) | (with_reducible refine St.store h fun W h => ?_) | (with_reducible refine St.storeS h fun W h => ?_) | (with_reducible refine St.alloc h fun b W h => ?_) | (with_reducible refine St.allocS h fun b W h => ?_) | (with_reducible refine a_nil ?_) | (with_reducible refine ss_load ?_) | (with_reducible refine ss_loadS ?_) | (with_reducible refine ss_eqb ?_)))
  refine iff' ?_
  refine sh93_calls ?_
  unfold sh93
  refine h.boxV fun bb W' h => ?_
  refine v_func ?_
  have hI := all1ss_itrZ (b := bb) hz (by omega)
  generalize hff : (Value.func (.func 123) #[] #[.pointer (some ⟨bb, 0, none⟩)]) = f at *
  subst hff
  (repeat (first | (with_reducible refine ift ?_) | (with_reducible refine iff' ?_) | (with_reducible refine a_lss ?_) | (with_reducible refine a_leq ?_) | (with_reducible refine a_gtr ?_) | (with_reducible refine a_geq ?_) | (with_reducible refine w_eql ?_) | (with_reducible refine w_neq ?_) | (with_reducible refine s_eql ?_) | (with_reducible refine s_neq ?_) | ((with_reducible refine a_add64 ?h0 ?h1 ?_); (case h0 => omega); (case h1 => omega);  skip) | ((with_reducible refine a_sub64 ?h0 ?h1 ?_); (case h0 => omega); (case h1 => omega);  skip) | ((with_reducible refine a_mul64 ?h0 ?h1 ?_); (case h0 => omega); (case h1 => omega);  skip) | (with_reducible refine a_notd ?_) | (with_reducible refine a_not ?_) | (with_reducible refine a_ext0 ?_) | (with_reducible refine a_ext1 ?_) | (with_reducible refine a_ext2 ?_) | (with_reducible refine x_len ?_) | (with_reducible refine x_lens ?_) | (with_reducible refine x_eqb ?_) | (with_reducible refine x_neb ?_) | (with_reducible refine x_nilP ?_) | (with_reducible refine x_nilPn ?_) | (with_reducible refine x_nilF ?_) | (with_reducible refine x_nilFF ?_) | (with_reducible refine w_eqlL ?_) | (with_reducible refine w_neqL ?_) | (with_reducible refine s_eqlL ?_) | (with_reducible refine ifnt ?_) | (with_reducible refine ifnf ?_) | (with_reducible refine x_eqB ?_) | (with_reducible refine x_neB ?_) | (with_reducible refine x_lssL ?_) | (with_reducible refine x_gtrL ?_) | (with_reducible refine x_geqL ?_) | (with_reducible refine s_neqL ?_) | (with_reducible refine St.load h ?_) | (with_reducible refine St.loadS h ?_) | (with_reducible refine a_fld0 ?_) | (with_reducible refine St.store h fun W h => ?_) | (with_reducible refine St.storeS h fun W h => ?_) | (with_reducible refine St.alloc h fun b W h => ?_) | (with_reducible refine St.allocS h fun b W h => ?_) | (with_reducible refine a_nil ?_) | (with_reducible refine ss_load ?_) | (with_reducible refine ss_loadS ?_) | (with_reducible refine ss_eqb ?_)))
  have hlen : ∀ x ∈ tellss m, x.length = 2 := by
    intro x hx
    obtain ⟨p, _, rfl⟩ := List.mem_map.1 hx
    rfl
  have hnil : St W G0 (Ky (.slice none 0 0) (Ow 136 2 0 (pcells (m.take 0))) :: _) W' := h.nilOw
  refine rngI (C := fun i => PaC bl m i) (fun c i => As.all False []) hI hlen (l := []) ?_ ?_ ?_ ?_
  · refine St.shutE (.slice none 0 0) (St.shut2 trivial ?_)
    have h2 : St W G0 (Ky bb (Ob (.cells [(.pointer (some ⟨b, 0, none⟩) : Value)].toArray 85 (0, 0))) :: Ky bl (Ob (.cells [(.slice none 0 0 : Value)].toArray 83 (0, 0))) :: Ky (.slice none 0 0 : Value) (Ow 136 2 0 (pcells (m.take 0))) :: []) W' := hnil.to
    have h3 := St.shut1 (φ := True) trivial h2
    have h4 : St W G0 (Ky (.func (.func 123) #[] #[.pointer (some ⟨bb, 0, none⟩)] : Value) (ItZss bb (.pointer (some ⟨b, 0, none⟩))) :: Ky bl (Ob (.cells [(.slice none 0 0 : Value)].toArray 83 (0, 0))) :: Ky (.slice none 0 0 : Value) (Ow 136 2 0 (pcells (m.take 0))) :: []) W' := h3
    exact h4.to
  · intro i x hxi ll rec I' W kn kst h hn hk
    obtain ⟨p, hp, rfl⟩ : ∃ p, m[i]? = some p ∧ x = [Enc.enc p.1, Enc.enc p.2] := by
      rw [List.getElem?_map] at hxi
      cases hp : m[i]? with
      | none => rw [hp] at hxi; cases hxi
      | some p => rw [hp] at hxi; cases hxi; exact ⟨p, rfl, rfl⟩
    have hil := (List.getElem?_eq_some_iff.1 hp).1
    refine app2 ?_
    refine ⟨h.ob (b := ll), ?_⟩
    replace h := h.putO (b := ll) (o := .loop (rec .ready none)) (.loop (rec .busy none))
    obtain ⟨v, h⟩ := St.openE h.swap
    replace h := (St.open2 h).2
    have ov : Cel1 v := .of_own (h.ow (v := v))
    refine app3 ?_
    (repeat (first | (with_reducible refine ift ?_) | (with_reducible refine iff' ?_) | (with_reducible refine a_lss ?_) | (with_reducible refine a_leq ?_) | (with_reducible refine a_gtr ?_) | (with_reducible refine a_geq ?_) | (with_reducible refine w_eql ?_) | (with_reducible refine w_neq ?_) | (with_reducible refine s_eql ?_) | (with_reducible refine s_neq ?_) | ((with_reducible refine a_add64 ?h0 ?h1 ?_); (case h0 => omega); (case h1 => omega);  skip) | ((with_reducible refine a_sub64 ?h0 ?h1 ?_); (case h0 => omega); (case h1 => omega);  skip) | ((with_reducible refine a_mul64 ?h0 ?h1 ?_); (case h0 => omega); (case h1 => omega);  skip) | (with_reducible refine a_notd ?_) | (with_reducible refine a_not ?_) | (with_reducible refine a_ext0 ?_) | (with_reducible refine a_ext1 ?_) | (with_reducible refine a_ext2 ?_) | (with_reducible refine x_len ?_) | (with_reducible refine x_lens ?_) | (with_reducible refine x_eqb ?_) | (with_reducible refine x_neb ?_) | (with_reducible refine x_nilP ?_) | (with_reducible refine x_nilPn ?_) | (with_reducible refine x_nilF ?_) | (with_reducible refine x_nilFF ?_) | (with_reducible refine w_eqlL ?_) | (with_reducible refine w_neqL ?_) | (with_reducible refine s_eqlL ?_) | (with_reducible refine ifnt ?_) | (with_reducible refine ifnf ?_) | (with_reducible refine x_eqB ?_) | (with_reducible refine x_neB ?_) | (with_reducible refine x_lssL ?_) | (with_reducible refine x_gtrL ?_) | (with_reducible refine x_geqL ?_) | (with_reducible refine s_neqL ?_) | (with_reducible refine St.load h ?_) | (with_reducible refine St.loadS h ?_) | (with_reducible refine a_fld0 ?_) | (with_reducible refine St.store h fun W h => ?_) | (with_reducible refine St.storeS h fun W h => ?_) | (with_reducible refine St.alloc h fun b W h => ?_) | (with_reducible refine St.allocS h fun b W h => ?_) | (with_reducible refine a_nil ?_) | (with_reducible refine ss_load ?_) | (with_reducible refine ss_loadS ?_) | (with_reducible refine ss_eqb ?_)))
    refine x_bld (cells := #[Enc.enc p.1, Enc.enc p.2]) rfl ?_
    refine h.lit (vs := [.agg [Enc.enc p.1, Enc.enc p.2].toArray]) (fun u W o2 h => ?_) (by decide)
    refine St.app (v := v) h (h.osl (v := u)) (by simp [Enc.one]) (by unfold maxLen; omega) (by omega) fun v' W o' h _ => ?_
    have e : pcells (m.take i) ++ [Enc.enc p.1, Enc.enc p.2] = pcells (m.take (i + 1)) := by
      rw [List.take_add_one, hp, pcells_append]; rfl
    rw [e] at h
    (repeat (first | (with_reducible refine ift ?_) | (with_reducible refine iff' ?_) | (with_reducible refine a_lss ?_) | (with_reducible refine a_leq ?_) | (with_reducible refine a_gtr ?_) | (with_reducible refine a_geq ?_) | (with_reducible refine w_eql ?_) | (with_reducible refine w_neq ?_) | (with_reducible refine s_eql ?_) | (with_reducible refine s_neq ?_) | ((with_reducible refine a_add64 ?h0 ?h1 ?_); (case h0 => omega); (case h1 => omega);  skip) | ((with_reducible refine a_sub64 ?h0 ?h1 ?_); (case h0 => omega); (case h1 => omega);  skip) | ((with_reducible refine a_mul64 ?h0 ?h1 ?_); (case h0 => omega); (case h1 => omega);  skip) | (with_reducible refine a_notd ?_) | (with_reducible refine a_not ?_) | (with_reducible refine a_ext0 ?_) | (with_reducible refine a_ext1 ?_) | (with_reducible refine a_ext2 ?_) | (with_reducible refine x_len ?_) | (with_reducible refine x_lens ?_) | (with_reducible refine x_eqb ?_) | (with_reducible refine x_neb ?_) | (with_reducible refine x_nilP ?_) | (with_reducible refine x_nilPn ?_) | (with_reducible refine x_nilF ?_) | (with_reducible refine x_nilFF ?_) | (with_reducible refine w_eqlL ?_) | (with_reducible refine w_neqL ?_) | (with_reducible refine s_eqlL ?_) | (with_reducible refine ifnt ?_) | (with_reducible refine ifnf ?_) | (with_reducible refine x_eqB ?_) | (with_reducible refine x_neB ?_) | (with_reducible refine x_lssL ?_) | (with_reducible refine x_gtrL ?_) | (with_reducible refine x_geqL ?_) | (with_reducible refine s_neqL ?_) | (with_reducible refine St.load h ?_) | (with_reducible refine St.loadS h ?_) | (with_reducible refine a_fld0 ?_) | (with_reducible refine St.store h fun W h => ?_) | (with_reducible refine St.storeS h fun W h => ?_) | (with_reducible refine St.alloc h fun b W h => ?_) | (with_reducible refine St.allocS h fun b W h => ?_) | (with_reducible refine a_nil ?_) | (with_reducible refine ss_load ?_) | (with_reducible refine ss_loadS ?_) | (with_reducible refine ss_eqb ?_)))
    exact hn W (St.swap (St.shutE v' (St.shut2 trivial h.to)))
  · intro DD W h
    obtain ⟨v, h⟩ := St.openE h.swap
    replace h := (St.open2 h).2
    rw [List.length_map, List.take_length] at h
    (repeat (first | (with_reducible refine ift ?_) | (with_reducible refine iff' ?_) | (with_reducible refine a_lss ?_) | (with_reducible refine a_leq ?_) | (with_reducible refine a_gtr ?_) | (with_reducible refine a_geq ?_) | (with_reducible refine w_eql ?_) | (with_reducible refine w_neq ?_) | (with_reducible refine s_eql ?_) | (with_reducible refine s_neq ?_) | ((with_reducible refine a_add64 ?h0 ?h1 ?_); (case h0 => omega); (case h1 => omega);  skip) | ((with_reducible refine a_sub64 ?h0 ?h1 ?_); (case h0 => omega); (case h1 => omega);  skip) | ((with_reducible refine a_mul64 ?h0 ?h1 ?_); (case h0 => omega); (case h1 => omega);  skip) | (with_reducible refine a_notd ?_) | (with_reducible refine a_not ?_) | (with_reducible refine a_ext0 ?_) | (with_reducible refine a_ext1 ?_) | (with_reducible refine a_ext2 ?_) | (with_reducible refine x_len ?_) | (with_reducible refine x_lens ?_) | (with_reducible refine x_eqb ?_) | (with_reducible refine x_neb ?_) | (with_reducible refine x_nilP ?_) | (with_reducible refine x_nilPn ?_) | (with_reducible refine x_nilF ?_) | (with_reducible refine x_nilFF ?_) | (with_reducible refine w_eqlL ?_) | (with_reducible refine w_neqL ?_) | (with_reducible refine s_eqlL ?_) | (with_reducible refine ifnt ?_) | (with_reducible refine ifnf ?_) | (with_reducible refine x_eqB ?_) | (with_reducible refine x_neB ?_) | (with_reducible refine x_lssL ?_) | (with_reducible refine x_gtrL ?_) | (with_reducible refine x_geqL ?_) | (with_reducible refine s_neqL ?_) | (with_reducible refine St.load h ?_) | (with_reducible refine St.loadS h ?_) | (with_reducible refine a_fld0 ?_) | (with_reducible refine St.store h fun W h => ?_) | (with_reducible refine St.storeS h fun W h => ?_) | (with_reducible refine St.alloc h fun b W h => ?_) | (with_reducible refine St.allocS h fun b W h => ?_) | (with_reducible refine a_nil ?_) | (with_reducible refine ss_load ?_) | (with_reducible refine ss_loadS ?_) | (with_reducible refine ss_eqb ?_)))
    refine ⟨h.ob (b := DD), ?_⟩
    have ov : Cel1 v := .of_own (h.ow (v := v))
    replace h := h.putO (b := DD) (o := .deferred (some [])) (.deferred none)
    exact k v _ ov h.to
  · intro DD c i W hi h
    exact (St.openA h.swap).1.elim

/-- hblref.Pairs -/
theorem prEq_spec {ds es : List (Txt × Txt)} {v u : Value} {n m : Nat} (hv : Sl W 2 v n (pcells ds)) (hn : n = ds.length) (hu : Sl W 2 u m (pcells es)) (hm : m = es.length) (hl : ds.length ≤ 100000) (k : ∀ W', Below W.heap.size W W' → RR (.bool (decide (ds = es))) W') :
    CallF Try.prog 60 #[v, u] W RR := by
  refine sh60_calls ?_
  unfold sh60
  subst hn hm
  refine x_lenS hv ?_
  refine x_lenS hu ?_
  refine w_neq (ifd (fun hc => ?_) fun hc => ?_)
  · have := k W (Below.refl _ _)
    rw [decide_eq_false (fun e => hc (by rw [e]))] at this
    exact this
  have hel : ds.length = es.length := by omega
  refine lpx (α := Nat) (fun i => [nV .i64 i]) (fun i W' => i ≤ ds.length ∧ ds.take i = es.take i ∧ Below W.heap.size W W') (fun i => ds.length - i) 0 (fun _ => rfl) rfl ⟨Nat.zero_le _, rfl, Below.refl _ _⟩ ?_
  rintro next i W' hnext ⟨hi, he, hb⟩
  refine app1 ?_
  refine x_lenS (hv.below hb) ?_
  refine a_lss (ifd (fun hc => ?_) fun hc => ?_)
  · obtain ⟨d, hd⟩ : ∃ d, ds[i]? = some d := ⟨_, List.getElem?_eq_getElem (by omega)⟩
    obtain ⟨e, hee⟩ : ∃ d, es[i]? = some d := ⟨_, List.getElem?_eq_getElem (by omega)⟩
    refine ⟨fun W2 => W2 = _, rfl, ?_⟩
    have hb2 : Below W.heap.size W W'.drew := hb.drew
    refine x_sfld (hv.below hb2) (fun _ e => by subst e; exact hv.below hb2) (by omega) (by decide) (pcells_get hd).1 ?_
    refine x_sfld (hu.below hb2) (fun _ e => by subst e; exact hu.below hb2) (by omega) (by decide) (pcells_get hee).1 ?_
    refine s_neqL (ifd (fun hne => ?_) fun h1 => ?_)
    · have := k _ hb2
      rw [decide_eq_false (fun e => hne (by rw [e, hee] at hd; cases hd; rfl))] at this
      exact this
    refine x_sfld (hv.below hb2) (fun _ e => by subst e; exact hv.below hb2) (by omega) (by decide) (pcells_get hd).2 ?_
    refine x_sfld (hu.below hb2) (fun _ e => by subst e; exact hu.below hb2) (by omega) (by decide) (pcells_get hee).2 ?_
    refine s_neqL (ifd (fun hne => ?_) fun h2 => ?_)
    · have := k _ hb2
      rw [decide_eq_false (fun e => hne (by rw [e, hee] at hd; cases hd; rfl))] at this
      exact this
    have heq : d = e := Prod.ext (Classical.not_not.1 h1) (Classical.not_not.1 h2)
    refine a_add64 (by omega) (by omega) ⟨rfl, rfl, ?_⟩
    rw [show ((i : Int) + 1) = ((i + 1 : Nat) : Int) by push_cast; rfl]
    refine hnext (i + 1) _ (by omega) ⟨by omega, ?_, hb2⟩
    rw [List.take_add_one, List.take_add_one, hd, hee, he, heq]
  · have hil : i = ds.length := by omega
    subst hil
    rw [List.take_length, hel, List.take_length] at he
    have := k _ hb
    rw [decide_eq_true he] at this
    exact this

/-- what Some has taken -/
def SoC (bn b4 b5 b6 : Nat) (n : Nat) (ds : List Ch) (i : Nat) : As := As.ex fun v : Value => As.all (i ≤ n) [Ky bn (Ob (.cells [nV .i64 n].toArray 3 (0, 0))), Ky b4 (Ob (.cells [(.slice none 0 0 : Value)].toArray 92 (0, 0))), Ky b5 (Ob (.cells [(.bool false : Value)].toArray 4 (0, 0))), Ky b6 (Ob (.cells [v].toArray 92 (0, 0))), Ky v (Ow 105 3 i (ccells (ds.take i)))]
/-- and where it ends early -/
def SoD (b4 b5 : Nat) (n : Nat) (ds : List Ch) (c : Code) (i : Nat) : As := As.ex fun v : Value => As.all (c = .ret ∧ i = n + 1) [Ky b4 (Ob (.cells [v].toArray 92 (0, 0))), Ky b5 (Ob (.cells [(.bool true : Value)].toArray 4 (0, 0))), Ky v (Ow 105 3 n (ccells (ds.take n)))]

/-- diff.Some -/
theorem some_spec {G : Nat → Prop} {f : Value} {A : Value → As} {ds : List Ch} {n : Int} [i : Has l f A R] (hI : Itr Try.prog w0 G f (tellCss ds) A) (h : St w0 G l W) (hks : ds.length ≤ 100000)
    (k : ∀ v W', Cel1 v → St w0 G (Ky v (Ow 105 3 (ds.take n.toNat).length (ccells (ds.take n.toNat))) :: Ky f A :: R) W' → RR (.tuple #[v, .bool (decide (n.toNat < ds.length))]) W') :
    CallF Try.prog 57 #[f, .int .i64 n] W RR := by
  refine sh57_calls ?_
  unfold sh57
  obtain ⟨gf, lb, rfl, _⟩ := id hI
  replace h := h.find (k := (.func (.func gf) #[] lb : Value)) (X := A)
  refine h.boxV fun bn W h => ?_
  refine h.alloc fun b4 W h => ?_
  refine h.alloc fun b5 W h => ?_
  refine h.load ?_
  refine w_max ?_
  obtain ⟨c, hc⟩ : ∃ c : Nat, max n 0 = c := ⟨(max n 0).toNat, by omega⟩
  have hc' : n.toNat = c := by omega
  rw [hc]
  rw [hc'] at k
  refine h.store fun W h => ?_
  refine h.alloc fun b6 W h => ?_
  (repeat (first | (with_reducible refine ift ?_) | (with_reducible refine iff' ?_) | (with_reducible refine a_lss ?_) | (with_reducible refine a_leq ?_) | (with_reducible refine a_gtr ?_) | (with_reducible refine a_geq ?_) | (with_reducible refine w_eql ?_) | (with_reducible refine w_neq ?_) | (with_reducible refine s_eql ?_) | (with_reducible refine s_neq ?_) | ((with_reducible refine a_add64 ?h0 ?h1 ?_); (case h0 => omega); (case h1 => omega);  skip) | ((with_reducible refine a_sub64 ?h0 ?h1 ?_); (case h0 => omega); (case h1 => omega);  skip) | ((with_reducible refine a_mul64 ?h0 ?h1 ?_); (case h0 => omega); (case h1 => omega);  skip) | (with_reducible refine a_notd ?_) | (with_reducible refine a_not ?_) | (with_reducible refine a_ext0 ?_) | (with_reducible refine a_ext1 ?_) | (with_reducible refine a_ext2 ?_) | (with_reducible refine x_len ?_) | (with_reducible refine x_lens ?_) | (with_reducible refine x_eqb ?_) | (with_reducible refine x_neb ?_) | (with_reducible refine x_nilP ?_) | (with_reducible refine x_nilPn ?_) | (with_reducible refine x_nilF ?_) | (with_reducible refine x_nilFF ?_) | (with_reducible refine w_eqlL ?_) | (with_reducible refine w_neqL ?_) | (with_reducible refine s_eqlL ?_) | (with_reducible refine ifnt ?_) | (with_reducible refine ifnf ?_) | (with_reducible refine x_eqB ?_) | (with_reducible refine x_neB ?_) | (with_reducible refine x_lssL ?_) | (with_reducible refine x_gtrL ?_) | (with_reducible refine x_geqL ?_) | (with_reducible refine s_neqL ?_) | (with_reducible refine St.load h ?_) | (with_reducible refine St.loadS h ?_) | (with_reducible refine a_fld0 ?_) | (with_reducible refine St.store h fun W h => ?_) | (with_reducible refine St.storeS h fun W h => ?_) | (with_reducible refine St.alloc h fun b W h => ?_) | (with_reducible refine St.allocS h fun b W h => ?_) | (with_reducible refine a_nil ?_) | (with_reducible refine ss_load ?_) | (with_reducible refine ss_loadS ?_) | (with_reducible refine ss_eqb ?_)))
  have hlen : ∀ x ∈ tellCss ds, x.length = 1 := by
    intro x hx
    obtain ⟨k, _, rfl⟩ := List.mem_map.1 hx
    rfl
  have hnil : St w0 G (Ky (.slice none 0 0) (Ow 105 3 0 (ccells (ds.take 0))) :: _) W := h.nilOw
  refine rngI (C := SoC bn b4 b5 b6 c ds) (SoD b4 b5 c ds) hI hlen (l := R) ?_ ?_ ?_ ?_
  · exact St.shutE (.slice none 0 0) (St.shut5 (Nat.zero_le _) hnil.to)
  · intro i x hxi ll rec I' W kn kst h hn hk
    obtain ⟨d, hd, rfl⟩ : ∃ d, ds[i]? = some d ∧ x = [.agg (Ch.cells d).toArray] := by
      rw [List.getElem?_map] at hxi
      cases hk0 : ds[i]? with
      | none => rw [hk0] at hxi; cases hxi
      | some k0 => rw [hk0] at hxi; cases hxi; exact ⟨k0, rfl, rfl⟩
    have hil := (List.getElem?_eq_some_iff.1 hd).1
    refine app1 ?_
    refine h.allocS fun bt W h => ?_
    refine h.storeS (cs' := Ch.cells d) fun W h => ?_
    refine ⟨h.ob (b := ll), ?_⟩
    replace h := h.putO (b := ll) (o := .loop (rec .ready none)) (.loop (rec .busy none))
    have h' := h.find (k := i) (X := SoC bn b4 b5 b6 c ds)
    clear h
    obtain ⟨v, h⟩ := St.openE h'
    obtain ⟨hin, h⟩ := St.open5 h
    have ov : Cel1 v := .of_own (h.ow (v := v))
    refine app5 ?_
    refine h.load ?_
    refine x_lenS (h.osl (v := v)) ?_
    refine h.load ?_
    refine w_eql (ifd (fun hc => ?_) fun hc => ?_)
    · (repeat (first | (with_reducible refine ift ?_) | (with_reducible refine iff' ?_) | (with_reducible refine a_lss ?_) | (with_reducible refine a_leq ?_) | (with_reducible refine a_gtr ?_) | (with_reducible refine a_geq ?_) | (with_reducible refine w_eql ?_) | (with_reducible refine w_neq ?_) | (with_reducible refine s_eql ?_) | (with_reducible refine s_neq ?_) | ((with_reducible refine a_add64 ?h0 ?h1 ?_); (case h0 => omega); (case h1 => omega);  skip) | ((with_reducible refine a_sub64 ?h0 ?h1 ?_); (case h0 => omega); (case h1 => omega);  skip) | ((with_reducible refine a_mul64 ?h0 ?h1 ?_); (case h0 => omega); (case h1 => omega);  skip) | (with_reducible refine a_notd ?_) | (with_reducible refine a_not ?_) | (with_reducible refine a_ext0 ?_) | (with_reducible refine a_ext1 ?_) | (with_reducible refine a_ext2 ?_) | (with_reducible refine x_len ?_) | (with_reducible refine x_lens ?_) | (with_reducible refine x_eqb ?_) | (with_reducible refine x_neb ?_) | (with_reducible refine x_nilP ?_) | (with_reducible refine x_nilPn ?_) | (with_reducible refine x_nilF ?_) | (with_reducible refine x_nilFF ?_) | (with_reducible refine w_eqlL ?_) | (with_reducible refine w_neqL ?_) | (with_reducible refine s_eqlL ?_) | (with_reducible refine ifnt ?_) | (with_reducible refine ifnf ?_) | (with_reducible refine x_eqB ?_) | (with_reducible refine x_neB ?_) | (with_reducible refine x_lssL ?_) | (with_reducible refine x_gtrL ?_) | (with_reducible refine x_geqL ?_) | (with_reducible refine s_neqL ?_) | (with_reducible refine St.load h ?_) | (with_reducible refine St.loadS h ?_) | (with_reducible refine a_fld0 ?_) | (with_reducible refine St.store h fun W h => ?_) | (with_reducible refine St.storeS h fun W h => ?_) | (with_reducible refine St.alloc h fun b W h => ?_) | (with_reducible refine St.allocS h fun b W h => ?_) | (with_reducible refine a_nil ?_) | (with_reducible refine ss_load ?_) | (with_reducible refine ss_loadS ?_) | (with_reducible refine ss_eqb ?_)))
      obtain rfl : i = c := by omega
      exact hk .ret W (St.swap (St.shutE v (St.shut3 ⟨rfl, rfl⟩ h.to)))
    · (repeat (first | (with_reducible refine ift ?_) | (with_reducible refine iff' ?_) | (with_reducible refine a_lss ?_) | (with_reducible refine a_leq ?_) | (with_reducible refine a_gtr ?_) | (with_reducible refine a_geq ?_) | (with_reducible refine w_eql ?_) | (with_reducible refine w_neq ?_) | (with_reducible refine s_eql ?_) | (with_reducible refine s_neq ?_) | ((with_reducible refine a_add64 ?h0 ?h1 ?_); (case h0 => omega); (case h1 => omega);  skip) | ((with_reducible refine a_sub64 ?h0 ?h1 ?_); (case h0 => omega); (case h1 => omega);  skip) | ((with_reducible refine a_mul64 ?h0 ?h1 ?_); (case h0 => omega); (case h1 => omega);  skip) | (with_reducible refine a_notd ?_) | (with_reducible refine a_not ?_) | (with_reducible refine a_ext0 ?_) | (with_reducible refine a_ext1 ?_) | (with_reducible refine a_ext2 ?_) | (with_reducible refine x_len ?_) | (with_reducible refine x_lens ?_) | (with_reducible refine x_eqb ?_) | (with_reducible refine x_neb ?_) | (with_reducible refine x_nilP ?_) | (with_reducible refine x_nilPn ?_) | (with_reducible refine x_nilF ?_) | (with_reducible refine x_nilFF ?_) | (with_reducible refine w_eqlL ?_) | (with_reducible refine w_neqL ?_) | (with_reducible refine s_eqlL ?_) | (with_reducible refine ifnt ?_) | (with_reducible refine ifnf ?_) | (with_reducible refine x_eqB ?_) | (with_reducible refine x_neB ?_) | (with_reducible refine x_lssL ?_) | (with_reducible refine x_gtrL ?_) | (with_reducible refine x_geqL ?_) | (with_reducible refine s_neqL ?_) | (with_reducible refine St.load h ?_) | (with_reducible refine St.loadS h ?_) | (with_reducible refine a_fld0 ?_) | (with_reducible refine St.store h fun W h => ?_) | (with_reducible refine St.storeS h fun W h => ?_) | (with_reducible refine St.alloc h fun b W h => ?_) | (with_reducible refine St.allocS h fun b W h => ?_) | (with_reducible refine a_nil ?_) | (with_reducible refine ss_load ?_) | (with_reducible refine ss_loadS ?_) | (with_reducible refine ss_eqb ?_)))
      refine h.lit (vs := [.agg (Ch.cells d).toArray]) (cs := Ch.cells d) (fun u2 W o2 h => ?_) (by decide)
      refine St.app (v := v) h (h.osl (v := u2)) (by simp [Ch.cells, Value.oneCell']) (by unfold maxLen; omega) (by omega) fun v' W o' h _ => ?_
      rw [ccells_step hd] at h
      (repeat (first | (with_reducible refine ift ?_) | (with_reducible refine iff' ?_) | (with_reducible refine a_lss ?_) | (with_reducible refine a_leq ?_) | (with_reducible refine a_gtr ?_) | (with_reducible refine a_geq ?_) | (with_reducible refine w_eql ?_) | (with_reducible refine w_neq ?_) | (with_reducible refine s_eql ?_) | (with_reducible refine s_neq ?_) | ((with_reducible refine a_add64 ?h0 ?h1 ?_); (case h0 => omega); (case h1 => omega);  skip) | ((with_reducible refine a_sub64 ?h0 ?h1 ?_); (case h0 => omega); (case h1 => omega);  skip) | ((with_reducible refine a_mul64 ?h0 ?h1 ?_); (case h0 => omega); (case h1 => omega);  skip) | (with_reducible refine a_notd ?_) | (with_reducible refine a_not ?_) | (with_reducible refine a_ext0 ?_) | (with_reducible refine a_ext1 ?_) | (with_reducible refine a_ext2 ?_) | (with_reducible refine x_len ?_) | (with_reducible refine x_lens ?_) | (with_reducible refine x_eqb ?_) | (with_reducible refine x_neb ?_) | (with_reducible refine x_nilP ?_) | (with_reducible refine x_nilPn ?_) | (with_reducible refine x_nilF ?_) | (with_reducible refine x_nilFF ?_) | (with_reducible refine w_eqlL ?_) | (with_reducible refine w_neqL ?_) | (with_reducible refine s_eqlL ?_) | (with_reducible refine ifnt ?_) | (with_reducible refine ifnf ?_) | (with_reducible refine x_eqB ?_) | (with_reducible refine x_neB ?_) | (with_reducible refine x_lssL ?_) | (with_reducible refine x_gtrL ?_) | (with_reducible refine x_geqL ?_) | (with_reducible refine s_neqL ?_) | (with_reducible refine St.load h ?_) | (with_reducible refine St.loadS h ?_) | (with_reducible refine a_fld0 ?_) | (with_reducible refine St.store h fun W h => ?_) | (with_reducible refine St.storeS h fun W h => ?_) | (with_reducible refine St.alloc h fun b W h => ?_) | (with_reducible refine St.allocS h fun b W h => ?_) | (with_reducible refine a_nil ?_) | (with_reducible refine ss_load ?_) | (with_reducible refine ss_loadS ?_) | (with_reducible refine ss_eqb ?_)))
      exact hn W (St.swap (St.shutE v' (St.shut5 (by omega) h.to)))
  · intro DD W h
    obtain ⟨v, h⟩ := St.openE h.swap
    obtain ⟨hin, h⟩ := St.open5 h
    rw [List.length_map] at hin h
    have ov : Cel1 v := .of_own (h.ow (v := v))
    refine h.load ?_
    refine h.store fun W h => ?_
    refine h.store fun W h => ?_
    refine ⟨h.ob (b := DD), ?_⟩
    replace h := h.putO (b := DD) (o := .deferred (some [])) (.deferred none)
    refine h.load ?_
    refine h.load ?_
    rw [List.take_length] at h
    have e : ds.take c = ds := List.take_of_length_le hin
    rw [e, decide_eq_false (by omega)] at k
    exact k v _ ov h.to
  · intro DD c' i W hi h
    obtain ⟨v, h1⟩ := St.openE h.swap
    obtain ⟨⟨hcc, hin⟩, h2⟩ := St.open3 h1
    clear h h1
    subst hcc
    have h := h2
    clear h2
    rw [List.length_map] at hi
    have ov : Cel1 v := .of_own (h.ow (v := v))
    refine ⟨h.ob (b := DD), ?_⟩
    replace h := h.putO (b := DD) (o := .deferred (some [])) (.deferred none)
    refine h.load ?_
    refine h.load ?_
    rw [decide_eq_true (by omega), List.length_take, Nat.min_eq_left (by omega)] at k
    exact k v _ ov h.to

/-- those behind a key -/
def aftD (s : Txt) (ds : List Ch) : List Ch := ds.filterMap fun d => if OKey.lt s d.1 then some d else none
/-- what After stands on -/
def ItF (b1 b2 : Nat) (f : Value) (s : Txt) (A : Value → As) (_ : Value) : As := As.all True [Ky b1 (Ob (.cells [f].toArray 88 (0, 0))), Ky b2 (Ob (.cells [strV s].toArray 9 (0, 0))), Ky f A]
theorem after1_itr {G : Nat → Prop} {f : Value} {A : Value → As} {ds : List Ch} {s : Txt} {b1 b2 : Nat} (hI : Itr Try.prog w0 G f (tellCss ds) A) :
    Itr Try.prog w0 G (.func (.func 94) #[] #[.pointer (some ⟨b1, 0, none⟩), .pointer (some ⟨b2, 0, none⟩)]) (tellCss (aftD s ds)) (ItF b1 b2 f s A) := by
  refine ⟨94, _, rfl, hentD _ (by kernel_rfl), fun yv C D I W RR oy hY h hd hs => ?_⟩
  show CallF Try.prog 94 #[yv, .pointer (some ⟨b1, 0, none⟩), .pointer (some ⟨b2, 0, none⟩)] W RR
  refine sh94_calls ?_
  unfold sh94
  replace h := (St.open3 h.swap).2
  obtain ⟨gf, lb, rfl, _⟩ := id hI
  refine h.boxV fun by_ W h => ?_
  (repeat (first | (with_reducible refine ift ?_) | (with_reducible refine iff' ?_) | (with_reducible refine a_lss ?_) | (with_reducible refine a_leq ?_) | (with_reducible refine a_gtr ?_) | (with_reducible refine a_geq ?_) | (with_reducible refine w_eql ?_) | (with_reducible refine w_neq ?_) | (with_reducible refine s_eql ?_) | (with_reducible refine s_neq ?_) | ((with_reducible refine a_add64 ?h0 ?h1 ?_); (case h0 => omega); (case h1 => omega);  skip) | ((with_reducible refine a_sub64 ?h0 ?h1 ?_); (case h0 => omega); (case h1 => omega);  skip) | ((with_reducible refine a_mul64 ?h0 ?h1 ?_); (case h0 => omega); (case h1 => omega);  skip) | (with_reducible refine a_notd ?_) | (with_reducible refine a_not ?_) | (with_reducible refine a_ext0 ?_) | (with_reducible refine a_ext1 ?_) | (with_reducible refine a_ext2 ?_) | (with_reducible refine x_len ?_) | (with_reducible refine x_lens ?_) | (with_reducible refine x_eqb ?_) | (with_reducible refine x_neb ?_) | (with_reducible refine x_nilP ?_) | (with_reducible refine x_nilPn ?_) | (with_reducible refine x_nilF ?_) | (with_reducible refine x_nilFF ?_) | (with_reducible refine w_eqlL ?_) | (with_reducible refine w_neqL ?_) | (with_reducible refine s_eqlL ?_) | (with_reducible refine ifnt ?_) | (with_reducible refine ifnf ?_) | (with_reducible refine x_eqB ?_) | (with_reducible refine x_neB ?_) | (with_reducible refine x_lssL ?_) | (with_reducible refine x_gtrL ?_) | (with_reducible refine x_geqL ?_) | (with_reducible refine s_neqL ?_) | (with_reducible refine St.load h ?_) | (with_reducible refine St.loadS h ?_) | (with_reducible refine a_fld0 ?_) | (with_reducible refine St.store h fun W h => ?_) | (with_reducible refine St.storeS h fun W h => ?_) | (with_reducible refine St.alloc h fun b W h => ?_) | (with_reducible refine St.allocS h fun b W h => ?_) | (with_reducible refine a_nil ?_) | (with_reducible refine ss_load ?_) | (with_reducible refine ss_loadS ?_) | (with_reducible refine ss_eqb ?_)))
  have hlen : ∀ x ∈ tellCss ds, x.length = 1 := by
    intro x hx
    obtain ⟨k, _, rfl⟩ := List.mem_map.1 hx
    rfl
  have back : ∀ (j : Nat) (E : Nat → As) (dd : Nat) (o : Obj) (W : World), St w0 G (Ky dd (Ob o) :: Ky by_ (Ob (.cells [yv].toArray 143 (0, 0))) :: Ky b2 (Ob (.cells [strV s].toArray 9 (0, 0))) :: Ky j E :: Ky (.func (.func gf) #[] lb : Value) A :: Ky b1 (Ob (.cells [(.func (.func gf) #[] lb : Value)].toArray 88 (0, 0))) :: I) W →
      St w0 G (Ky j E :: Ky (.func (.func 94) #[] #[.pointer (some ⟨b1, 0, none⟩), .pointer (some ⟨b2, 0, none⟩)] : Value) (ItF b1 b2 (.func (.func gf) #[] lb) s A) :: I) W := fun j E dd o W h =>
    St.swap (St.shut3 (φ := True) trivial h.to)
  refine rngI (fun i => As.all True [Ky by_ (Ob (.cells [yv].toArray 143 (0, 0))), Ky b2 (Ob (.cells [strV s].toArray 9 (0, 0))), Ky (aftD s (ds.take i)).length C])
    (fun c i => As.ex fun j : Nat => As.all (c = .ret ∧ j ≤ (aftD s ds).length) [Ky by_ (Ob (.cells [yv].toArray 143 (0, 0))), Ky b2 (Ob (.cells [strV s].toArray 9 (0, 0))), Ky j D]) hI hlen
    (l := Ky b1 (Ob (.cells [(.func (.func gf) #[] lb : Value)].toArray 88 (0, 0))) :: I) ?_ ?_ ?_ ?_
  · have h' : St w0 G (Ky by_ (Ob (.cells [yv].toArray 143 (0, 0))) :: Ky b2 (Ob (.cells [strV s].toArray 9 (0, 0))) :: Ky 0 C :: Ky (.func (.func gf) #[] lb : Value) A :: Ky b1 (Ob (.cells [(.func (.func gf) #[] lb : Value)].toArray 88 (0, 0))) :: I) W := h.to
    exact St.shut3 trivial h'
  · intro i x hxi ll rec I' W kn ks h hn hk
    obtain ⟨d, hdd, rfl⟩ : ∃ d, ds[i]? = some d ∧ x = [.agg (Ch.cells d).toArray] := by
      rw [List.getElem?_map] at hxi
      cases hk0 : ds[i]? with
      | none => rw [hk0] at hxi; cases hxi
      | some k0 => rw [hk0] at hxi; cases hxi; exact ⟨k0, rfl, rfl⟩
    obtain ⟨g1, g0⟩ := fmap_at (q := fun d : Ch => if OKey.lt s d.1 then some d else none) hdd
    have gle := fmap_le (q := fun d : Ch => if OKey.lt s d.1 then some d else none) ds (i + 1)
    refine app1 ?_
    refine h.allocS fun bt W h => ?_
    refine h.storeS (cs' := Ch.cells d) fun W h => ?_
    refine ⟨h.ob (b := ll), ?_⟩
    replace h := h.putO (b := ll) (o := .loop (rec .ready none)) (.loop (rec .busy none))
    have h' := h.find (k := i) (X := fun i : Nat => As.all True [Ky by_ (Ob (.cells [yv].toArray 143 (0, 0))), Ky b2 (Ob (.cells [strV s].toArray 9 (0, 0))), Ky (aftD s (ds.take i)).length C])
    clear h
    have h := (St.open3 h').2
    clear h'
    refine app3 ?_
    refine jni (fun vs W => vs = [] ∧ St w0 G (Ky by_ (Ob (.cells [yv].toArray 143 (0, 0))) :: Ky b2 (Ob (.cells [strV s].toArray 9 (0, 0))) :: Ky (aftD s (ds.take (i + 1))).length C :: Ky ll (Ob (.loop (rec .busy none))) :: I') W) ?_ ?_
    · rintro vs W _ ⟨rfl, h⟩
      exact hn W (St.swap (St.shut3 trivial h.to))
    refine a_fld0 ?_
    refine St.load (cs := [strV d.1, strV d.2.1, .bool d.2.2]) h ?_
    refine h.load ?_
    refine x_gtrL (ifb (fun hg => ?_) fun hg => ?_)
    · have hq : (if OKey.lt s d.1 then some d else none) = some d := if_pos hg
      obtain ⟨g1, g2⟩ := g1 _ hq
      refine h.load ?_
      refine h.loadS ?_
      refine hY (aftD s (ds.take i)).length [.agg (Ch.cells d).toArray] (by rw [List.getElem?_map]; exact congrArg (Option.map _) g1) (Ky by_ (Ob (.cells [yv].toArray 143 (0, 0))) :: Ky b2 (Ob (.cells [strV s].toArray 9 (0, 0))) :: Ky ll (Ob (.loop (rec .busy none))) :: I') _ _ h.to (fun W h => ?_) fun W h => ?_
      · refine a_not (iff' ⟨rfl, ?_⟩)
        have e : (aftD s (ds.take (i + 1))).length = (aftD s (ds.take i)).length + 1 := g2
        rw [e]
        exact h.to
      · refine a_not (ift ?_)
        exact hk .ret W (St.swap (St.shutE ((aftD s (ds.take i)).length + 1) (St.shut3 ⟨rfl, Nat.le_trans (Nat.le_of_eq g2.symm) gle⟩ h.to)))
    · have hq : (if OKey.lt s d.1 then some d else none) = none := if_neg (by intro h; have h1 : OKey.lt s d.1 = false := hg; rw [h1] at h; cases h)
      have e : (aftD s (ds.take (i + 1))).length = (aftD s (ds.take i)).length := g0 hq
      refine ⟨rfl, ?_⟩
      rw [e]
      exact h.to
  · intro DD W h
    replace h := (St.open3 h.swap).2
    refine ⟨h.ob (b := DD), hd _ ?_⟩
    replace h := h.putO (b := DD) (o := .deferred (some [])) (.deferred none)
    rw [List.length_map]
    rw [List.length_map, List.take_length] at h
    exact back _ _ DD (.deferred none) _ h.to
  · intro DD c i W hi h
    obtain ⟨j, h⟩ := St.openE h.swap
    obtain ⟨⟨hc, hj⟩, h'⟩ := St.open3 h
    subst hc
    clear h
    have h := h'
    refine ⟨h.ob (b := DD), hs j _ (by rw [List.length_map]; exact hj) ?_⟩
    replace h := h.putO (b := DD) (o := .deferred (some [])) (.deferred none)
    exact back _ _ DD (.deferred none) _ h.to
theorem after_spec {G : Nat → Prop} {f : Value} {A : Value → As} {ds : List Ch} {s : Txt} [i : Has l f A R] (hI : Itr Try.prog w0 G f (tellCss ds) A) (h : St w0 G l W) (k : ∀ f' b1 b2 W', Itr Try.prog w0 G f' (tellCss (aftD s ds)) (ItF b1 b2 f s A) → St w0 G (Ky f' (ItF b1 b2 f s A) :: R) W' → RR f' W') :
    CallF Try.prog 62 #[f, strV s] W RR := by
  refine sh62_calls ?_
  unfold sh62
  obtain ⟨gf, lb, rfl, _⟩ := id hI
  replace h := h.find (k := (.func (.func gf) #[] lb : Value)) (X := A)
  refine h.boxV fun b1 W h => ?_
  refine h.boxV fun b2 W h => ?_
  refine v_func ?_
  exact k _ b1 b2 W (after1_itr hI) (St.shut3 (φ := True) trivial h.to)

/-- changes put on -/
def putD (m : List (Txt × Txt)) (d : Ch) : List (Txt × Txt) := if d.2.2 then delK d.1 m else putK d.1 d.2.1 m
def foldD (m : List (Txt × Txt)) (ds : List Ch) : List (Txt × Txt) := ds.foldl putD m
theorem putD_len (m : List (Txt × Txt)) (d : Ch) : (putD m d).length ≤ m.length + 1 := by
  unfold putD
  split
  · have := posK_le d.1 m
    unfold delK
    split <;> simp [List.length_take, List.length_drop] <;> omega
  · exact putK_len3 _ _ _
theorem foldD_len : ∀ (ds : List Ch) (m : List (Txt × Txt)), (foldD m ds).length ≤ m.length + ds.length
  | [], m => Nat.le_refl _
  | d :: ds, m => by
    have := foldD_len ds (putD m d)
    have := putD_len m d
    show (foldD (putD m d) ds).length ≤ _
    rw [List.length_cons]; omega
/-- Copy, of a map left alone -/
theorem copyss_specZ {m : List (Txt × Txt)} {v : Value} (hz : Mzss m W v) (hl : m.length ≤ 1000000) (kk : ∀ c W', St W G0 [Ky c (Mpss m)] W' → RR c W') :
    CallF Try.prog 95 #[v] W RR := by
  refine sh95_calls ?_
  unfold sh95
  obtain ⟨b, sl, rfl, hs, o, hr, hsl⟩ := hz
  have h := St.start W
  refine a_nil (a_fld0 (w_ldR hr rfl ?_))
  refine cloness_spec hsl (pcells_one m) (by omega) fun cl W1 g1 g2 => ?_
  replace h := h.take g2 g1
  have oc : Cel1 cl := .of_own (h.ow (v := cl))
  refine x_bld (cells := #[cl]) (by obtain ⟨ao, cap, rfl, _⟩ := h.osl (v := cl); rfl) ?_
  refine h.boxS (cs := [cl]) fun bc W h => ?_
  exact kk _ W (h.shutM (b := bc) (sl := cl) hs rfl rfl)

/-- diff.Fold -/
theorem fold_spec {m : List (Txt × Txt)} {v u : Value} {ds : List Ch} {n : Nat} (hz : Mnss m W v) (hu : Sl W 3 u n (ccells ds)) (hn : n = ds.length) (hlm : m.length ≤ 100000) (hld : ds.length ≤ 100000) (k : ∀ c W', St W G0 [Ky c (Mpss (foldD m ds))] W' → RR c W') :
    CallF Try.prog 63 #[v, u] W RR := by
  refine sh63_calls ?_
  unfold sh63
  subst hn
  have h := St.start W
  refine newss_spec h fun nv W' h => ?_
  refine jni (fun vs W' => ∃ b, vs = [u, .pointer (some ⟨b, 0, none⟩)] ∧ St W G0 [Ky (.pointer (some ⟨b, 0, none⟩) : Value) (Mpss m)] W') ?_ ?_
  · clear h
    rintro vs W' _ ⟨b, rfl, h⟩
    refine app2 ?_
    refine x_lenS (h.sl0 hu) ?_
    refine lpx (α := Nat) (fun i => [nV .i64 i]) (fun i W' => i ≤ ds.length ∧ St W G0 [Ky (.pointer (some ⟨b, 0, none⟩) : Value) (Mpss (foldD m (ds.take i)))] W') (fun i => ds.length - i) 0 (fun _ => rfl) rfl ⟨Nat.zero_le _, h⟩ ?_
    clear h
    rintro next i W' hnext ⟨hi, h⟩
    refine app1 ?_
    have hfl := foldD_len (ds.take i) m
    rw [List.length_take] at hfl
    refine a_lss (ifd (fun hc => ?_) fun hc => ?_)
    · obtain ⟨d, hd⟩ : ∃ d, ds[i]? = some d := ⟨_, List.getElem?_eq_getElem (by omega)⟩
      have step : foldD m (ds.take (i + 1)) = putD (foldD m (ds.take i)) d := by
        rw [List.take_add_one, hd]
        simp [foldD, List.foldl_append]
      refine x_idx (h.sl0 hu) (by omega) fun bb oo hcc => ?_
      refine x_lds (cs := Ch.cells d) rfl (fun j u hu => ?_) ?_
      · have hj : j < 3 := by have := (List.getElem?_eq_some_iff.1 hu).1; exact this
        exact hcc j u hj ((ccells_get hd hj).trans hu)
      refine h.allocS fun ob W' h => ?_
      refine h.storeS (cs' := [strV d.1, strV d.2.1, .bool d.2.2]) fun W' h => ?_
      refine jni (fun vs W' => vs = [.pointer (some ⟨b, 0, none⟩), u, nV .i64 ds.length, nV .i64 i] ∧ St W G0 [Ky (.pointer (some ⟨b, 0, none⟩) : Value) (Mpss (foldD m (ds.take (i + 1))))] W') ?_ ?_
      · rintro vs W' _ ⟨rfl, h⟩
        refine app4 ?_
        refine a_add64 (by omega) (by omega) ⟨rfl, rfl, rfl, ?_⟩
        rw [show ((i : Int) + 1) = ((i + 1 : Nat) : Int) by push_cast; rfl]
        exact hnext (i + 1) W' (by omega) ⟨by omega, h⟩
      rw [step]
      refine a_fld ?_
      refine h.load ?_
      refine ifb (fun hb => ?_) fun hb => ?_
      · refine a_fld0 (h.load ?_)
        refine deletess_spec (v := .pointer (some ⟨b, 0, none⟩)) (k := d.1) h (by omega) fun W' h => ?_
        refine ⟨rfl, ?_⟩
        unfold putD
        rw [if_pos hb]
        exact h.to
      · refine a_fld0 (h.load ?_)
        refine a_fld (h.load ?_)
        refine putss_spec (v := .pointer (some ⟨b, 0, none⟩)) (k := d.1) (x := d.2.1) h (by omega) fun W' h => ?_
        refine ⟨rfl, ?_⟩
        unfold putD
        rw [if_neg (by rw [hb]; simp)]
        exact h.to
    · have hil : i = ds.length := by omega
      subst hil
      rw [List.take_length] at h
      exact k _ W' h
  · rcases hz with ⟨rfl, rfl⟩ | hz
    · (repeat (first | (with_reducible refine ift ?_) | (with_reducible refine iff' ?_) | (with_reducible refine a_lss ?_) | (with_reducible refine a_leq ?_) | (with_reducible refine a_gtr ?_) | (with_reducible refine a_geq ?_) | (with_reducible refine w_eql ?_) | (with_reducible refine w_neq ?_) | (with_reducible refine s_eql ?_) | (with_reducible refine s_neq ?_) | ((with_reducible refine a_add64 ?h0 ?h1 ?_); (case h0 => omega); (case h1 => omega);  skip) | ((with_reducible refine a_sub64 ?h0 ?h1 ?_); (case h0 => omega); (case h1 => omega);  skip) | ((with_reducible refine a_mul64 ?h0 ?h1 ?_); (case h0 => omega); (case h1 => omega);  skip) | (with_reducible refine a_notd ?_) | (with_reducible refine a_not ?_) | (with_reducible refine a_ext0 ?_) | (with_reducible refine a_ext1 ?_) | (with_reducible refine a_ext2 ?_) | (with_reducible refine x_len ?_) | (with_reducible refine x_lens ?_) | (with_reducible refine x_eqb ?_) | (with_reducible refine x_neb ?_) | (with_reducible refine x_nilP ?_) | (with_reducible refine x_nilPn ?_) | (with_reducible refine x_nilF ?_) | (with_reducible refine x_nilFF ?_) | (with_reducible refine w_eqlL ?_) | (with_reducible refine w_neqL ?_) | (with_reducible refine s_eqlL ?_) | (with_reducible refine ifnt ?_) | (with_reducible refine ifnf ?_) | (with_reducible refine x_eqB ?_) | (with_reducible refine x_neB ?_) | (with_reducible refine x_lssL ?_) | (with_reducible refine x_gtrL ?_) | (with_reducible refine x_geqL ?_) | (with_reducible refine s_neqL ?_) | (with_reducible refine St.load h ?_) | (with_reducible refine St.loadS h ?_) | (with_reducible refine a_fld0 ?_) | (with_reducible refine St.store h fun W h => ?_) | (with_reducible refine St.storeS h fun W h => ?_) | (with_reducible refine St.alloc h fun b W h => ?_) | (with_reducible refine St.allocS h fun b W h => ?_) | (with_reducible refine a_nil ?_) | (with_reducible refine ss_load ?_) | (with_reducible refine ss_loadS ?_) | (with_reducible refine ss_eqb ?_)))
      refine iff' ?_
      obtain ⟨b, rfl, _⟩ := h.ptrM (v := nv)
      exact ⟨b, rfl, h⟩
    · have hz' := hz.below h.low
      obtain ⟨b0, sl, rfl, hrest⟩ := id hz
      (repeat (first | (with_reducible refine ift ?_) | (with_reducible refine iff' ?_) | (with_reducible refine a_lss ?_) | (with_reducible refine a_leq ?_) | (with_reducible refine a_gtr ?_) | (with_reducible refine a_geq ?_) | (with_reducible refine w_eql ?_) | (with_reducible refine w_neq ?_) | (with_reducible refine s_eql ?_) | (with_reducible refine s_neq ?_) | ((with_reducible refine a_add64 ?h0 ?h1 ?_); (case h0 => omega); (case h1 => omega);  skip) | ((with_reducible refine a_sub64 ?h0 ?h1 ?_); (case h0 => omega); (case h1 => omega);  skip) | ((with_reducible refine a_mul64 ?h0 ?h1 ?_); (case h0 => omega); (case h1 => omega);  skip) | (with_reducible refine a_notd ?_) | (with_reducible refine a_not ?_) | (with_reducible refine a_ext0 ?_) | (with_reducible refine a_ext1 ?_) | (with_reducible refine a_ext2 ?_) | (with_reducible refine x_len ?_) | (with_reducible refine x_lens ?_) | (with_reducible refine x_eqb ?_) | (with_reducible refine x_neb ?_) | (with_reducible refine x_nilP ?_) | (with_reducible refine x_nilPn ?_) | (with_reducible refine x_nilF ?_) | (with_reducible refine x_nilFF ?_) | (with_reducible refine w_eqlL ?_) | (with_reducible refine w_neqL ?_) | (with_reducible refine s_eqlL ?_) | (with_reducible refine ifnt ?_) | (with_reducible refine ifnf ?_) | (with_reducible refine x_eqB ?_) | (with_reducible refine x_neB ?_) | (with_reducible refine x_lssL ?_) | (with_reducible refine x_gtrL ?_) | (with_reducible refine x_geqL ?_) | (with_reducible refine s_neqL ?_) | (with_reducible refine St.load h ?_) | (with_reducible refine St.loadS h ?_) | (with_reducible refine a_fld0 ?_) | (with_reducible refine St.store h fun W h => ?_) | (with_reducible refine St.storeS h fun W h => ?_) | (with_reducible refine St.alloc h fun b W h => ?_) | (with_reducible refine St.allocS h fun b W h => ?_) | (with_reducible refine a_nil ?_) | (with_reducible refine ss_load ?_) | (with_reducible refine ss_loadS ?_) | (with_reducible refine ss_eqb ?_)))
      refine ift ?_
      have hl := h.low
      refine copyss_specZ hz' (by omega) fun c W2 h2 => ?_
      have h3 := h.frame1 h2
      obtain ⟨b, rfl, _⟩ := h3.ptrM (v := c)
      exact ⟨b, rfl, h3.to⟩
end
end Go.Proofs.Ytdjgchofnkancaa
