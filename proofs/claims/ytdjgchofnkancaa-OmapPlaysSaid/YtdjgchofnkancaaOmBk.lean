/-
  MAPS IN ORDER ([int, string]): the pairs of a map told, falling.
-/
import Derived.Test.YtdjgchofnkancaaOmIis
namespace Go.Proofs.Ytdjgchofnkancaa
open Go Go.Ez Go.RowKit
set_option linter.unusedSimpArgs false
set_option linter.unusedVariables false

/-- what slices.Backward tells -/
def backV (r : List (Int × Txt)) : List (List Value) := (List.range r.length).map fun j => [nV .i64 (r.length - 1 - j), .agg [Enc.enc (r.getD (r.length - 1 - j) (0, [])).1, Enc.enc (r.getD (r.length - 1 - j) (0, [])).2].toArray]
theorem backV_get {r : List (Int × Txt)} {j : Nat} (hj : j < r.length) {p : Int × Txt} (hp : r[r.length - 1 - j]? = some p) : (backV r)[j]? = some [nV .i64 (r.length - 1 - j), .agg [Enc.enc p.1, Enc.enc p.2].toArray] := by
  unfold backV
  rw [List.getElem?_map, List.getElem?_range hj]
  have : r.getD (r.length - 1 - j) (0, []) = p := by rw [List.getD_eq_getElem?_getD, hp]; rfl
  simp only [Option.map_some, this]
theorem backV_len (r : List (Int × Txt)) : (backV r).length = r.length := by simp [backV]

section
variable {w0 W : World} {G : Nat → Prop} {l R : List As} {m : List (Int × Txt)} {v : Value} {RR : Value → World → Prop}

abbrev ItB (b : Nat) (cl : Value) (r : List (Int × Txt)) : Value → As := Two (Ky b (Ob (.cells [cl].toArray 119 (0, 0)))) (Ky cl (Ow 123 2 r.length (pcells r)))

theorem backward1_itr {b : Nat} {cl : Value} {r : List (Int × Txt)} (hl : r.length ≤ 1000000) : Itr Try.prog w0 G (.func (.func 134) #[] #[.pointer (some ⟨b, 0, none⟩)]) (backV r) (ItB b cl r) := by
  refine ⟨134, _, rfl, hent _ (by kernel_rfl), fun yv C D I W RR oy hY h hd hs => ?_⟩
  show CallF Try.prog 134 #[yv, .pointer (some ⟨b, 0, none⟩)] W RR
  refine sh134_calls ?_
  unfold sh134
  replace h := h.untwo (k := (.func (.func 134) #[] #[.pointer (some ⟨b, 0, none⟩)] : Value))
  refine h.load ?_
  refine x_lenS (h.osl (v := cl)) ?_
  refine a_sub64 (by omega) (by omega) ?_
  have back : ∀ (j : Nat) (E : Nat → As) (W : World), St w0 G (Ky j E :: Ky b (Ob (.cells [cl].toArray 119 (0, 0))) :: Ky cl (Ow 123 2 r.length (pcells r)) :: I) W →
      St w0 G (Ky j E :: Ky (.func (.func 134) #[] #[.pointer (some ⟨b, 0, none⟩)] : Value) (ItB b cl r) :: I) W := fun j E W h =>
    (St.two (k := (.func (.func 134) #[] #[.pointer (some ⟨b, 0, none⟩)] : Value)) (a := b) (b := cl) h).to
  refine lpx (α := Nat) (fun i => [.int .i64 ((r.length : Int) - 1 - i)]) (fun i W => i ≤ r.length ∧ St w0 G (Ky i C :: Ky b (Ob (.cells [cl].toArray 119 (0, 0))) :: Ky cl (Ow 123 2 r.length (pcells r)) :: I) W)
    (fun i => r.length - i) 0 (fun _ => rfl) (by simp) ⟨Nat.zero_le _, h.to⟩ ?_
  rintro next i W hnext ⟨hi, h⟩
  refine app1 ?_
  refine a_geq (ifd (fun hc => ?_) fun hc => ?_)
  · have hil : i < r.length := by omega
    have ei : (r.length : Int) - 1 - i = ((r.length - 1 - i : Nat) : Int) := by omega
    obtain ⟨p, hp⟩ : ∃ p, r[r.length - 1 - i]? = some p := ⟨_, List.getElem?_eq_getElem (by omega)⟩
    refine h.load ?_
    rw [ei]
    refine pcells_sl (h.osl (v := cl)) hp ?_
    refine hY i _ (backV_get hil hp) (Ky b (Ob (.cells [cl].toArray 119 (0, 0))) :: Ky cl (Ow 123 2 r.length (pcells r)) :: I) W _ h.to (fun W h => ?_) fun W h => ?_
    · refine a_not (iff' ?_)
      refine a_sub64 (by omega) (by omega) ?_
      rw [show (((r.length - 1 - i : Nat) : Int) - 1) = (r.length : Int) - 1 - ((i + 1 : Nat) : Int) by omega]
      exact ⟨rfl, rfl, hnext (i + 1) W (by omega) ⟨by omega, h.to⟩⟩
    · refine a_not (ift ?_)
      exact hs (i + 1) W (by rw [backV_len]; omega) (back _ _ W h.to)
  · have hil : i = r.length := by omega
    subst hil
    exact hd W (by rw [backV_len]; exact back _ _ W h.to)

theorem rev_get {r : List (Int × Txt)} {j : Nat} {x : List Value} (h : (backV r)[j]? = some x) : ∃ p, r.reverse[j]? = some p ∧ x = [nV .i64 (r.length - 1 - j), .agg [Enc.enc p.1, Enc.enc p.2].toArray] := by
  have hj : j < r.length := by rw [← backV_len r]; exact (List.getElem?_eq_some_iff.1 h).1
  obtain ⟨p, hp⟩ : ∃ p, r[r.length - 1 - j]? = some p := ⟨_, List.getElem?_eq_getElem (by omega)⟩
  rw [backV_get hj hp] at h
  cases h
  exact ⟨p, by rw [List.getElem?_reverse hj]; exact hp, rfl⟩

theorem back1_itr {b : Nat} (hl : m.length ≤ 1000000) : Itr Try.prog w0 G (.func (.func 115) #[] #[.pointer (some ⟨b, 0, none⟩)]) (tellis m.reverse) (ItAis b v m) := by
  refine ⟨115, _, rfl, hent _ (by kernel_rfl), fun yv C D I W RR oy hY h hd hs => ?_⟩
  show CallF Try.prog 115 #[yv, .pointer (some ⟨b, 0, none⟩)] W RR
  refine sh115_calls ?_
  unfold sh115
  replace h := h.untwo (k := (.func (.func 115) #[] #[.pointer (some ⟨b, 0, none⟩)] : Value))
  refine h.boxV fun bx W h => ?_
  obtain ⟨bm, hv, _⟩ := h.ptrM (v := v)
  refine h.load ?_
  subst hv
  obtain ⟨bm', sl, e1, hsr, o, h⟩ := h.openM (v := .pointer (some ⟨bm, 0, none⟩))
  cases e1
  (repeat (first | (with_reducible refine ift ?_) | (with_reducible refine iff' ?_) | (with_reducible refine a_lss ?_) | (with_reducible refine a_leq ?_) | (with_reducible refine a_gtr ?_) | (with_reducible refine a_geq ?_) | (with_reducible refine w_eql ?_) | (with_reducible refine w_neq ?_) | (with_reducible refine s_eql ?_) | (with_reducible refine s_neq ?_) | ((with_reducible refine a_add64 ?h0 ?h1 ?_); (case h0 => omega); (case h1 => omega);  skip) | ((with_reducible refine a_sub64 ?h0 ?h1 ?_); (case h0 => omega); (case h1 => omega);  skip) | ((with_reducible refine a_mul64 ?h0 ?h1 ?_); (case h0 => omega); (case h1 => omega);  skip) | (with_reducible refine a_notd ?_) | (with_reducible refine a_not ?_) | (with_reducible refine a_ext0 ?_) | (with_reducible refine a_ext1 ?_) | (with_reducible refine a_ext2 ?_) | (with_reducible refine x_len ?_) | (with_reducible refine x_lens ?_) | (with_reducible refine x_eqb ?_) | (with_reducible refine x_neb ?_) | (with_reducible refine x_nilP ?_) | (with_reducible refine x_nilPn ?_) | (with_reducible refine x_nilF ?_) | (with_reducible refine x_nilFF ?_) | (with_reducible refine w_eqlL ?_) | (with_reducible refine w_neqL ?_) | (with_reducible refine s_eqlL ?_) | (with_reducible refine ifnt ?_) | (with_reducible refine ifnf ?_) | (with_reducible refine x_eqB ?_) | (with_reducible refine x_neB ?_) | (with_reducible refine x_lssL ?_) | (with_reducible refine x_gtrL ?_) | (with_reducible refine x_geqL ?_) | (with_reducible refine s_neqL ?_) | (with_reducible refine St.load h ?_) | (with_reducible refine St.loadS h ?_) | (with_reducible refine a_fld0 ?_) | (with_reducible refine St.store h fun W h => ?_) | (with_reducible refine St.storeS h fun W h => ?_) | (with_reducible refine St.alloc h fun b W h => ?_) | (with_reducible refine St.allocS h fun b W h => ?_) | (with_reducible refine a_nil ?_) | (with_reducible refine ss_load ?_) | (with_reducible refine ss_loadS ?_) | (with_reducible refine ss_eqb ?_)))
  refine cloneis_spec (h.osl (v := sl)) (pcells_one m) (by omega) fun cl W1 g1 g2 => ?_
  replace h := (h.take g2 g1).shutM (b := bm) (sl := sl) hsr rfl rfl
  have ocl : Cel1 cl := .of_own (h.ow (v := cl))
  -- slices.Backward
  refine sh116_calls ?_
  unfold sh116
  refine h.boxV fun bc W h => ?_
  refine v_func ?_
  have hI : Itr Try.prog w0 G _ _ _ := backward1_itr (w0 := w0) (G := G) (b := bc) (cl := cl) (r := m) hl
  replace h := h.two (k := (.func (.func 134) #[] #[.pointer (some ⟨bc, 0, none⟩)] : Value)) (a := bc) (b := cl)
  have back : ∀ (j : Nat) (E : Nat → As) (W : World), St w0 G (Ky j E :: Ky b (Ob (.cells [(.pointer (some ⟨bm, 0, none⟩) : Value)].toArray 41 (0, 0))) :: Ky (.pointer (some ⟨bm, 0, none⟩) : Value) (Mpis m) :: I) W →
      St w0 G (Ky j E :: Ky (.func (.func 115) #[] #[.pointer (some ⟨b, 0, none⟩)] : Value) (ItAis b (.pointer (some ⟨bm, 0, none⟩)) m) :: I) W := fun j E W h =>
    (St.two (k := (.func (.func 115) #[] #[.pointer (some ⟨b, 0, none⟩)] : Value)) (a := b) (b := (.pointer (some ⟨bm, 0, none⟩) : Value)) h).to
  refine rngI (fun i => As.all True [Ky bx (Ob (.cells [yv].toArray 43 (0, 0))), Ky i C]) (fun c i => As.all (c = .ret) [Ky i D]) hI (fun x hx => by
      obtain ⟨j, hj⟩ := List.getElem?_of_mem hx
      obtain ⟨p, _, rfl⟩ := rev_get hj
      rfl)
    (l := Ky b (Ob (.cells [(.pointer (some ⟨bm, 0, none⟩) : Value)].toArray 41 (0, 0))) :: Ky (.pointer (some ⟨bm, 0, none⟩) : Value) (Mpis m) :: I) ?_ ?_ ?_ ?_
  · exact St.shut2 trivial h.to
  · intro i x hxi ll rec I' W kn ks h hn hk
    obtain ⟨p, hp, rfl⟩ := rev_get hxi
    refine app2 ?_
    refine h.allocS fun pb W h => ?_
    refine h.storeS (cs' := [Enc.enc p.1, Enc.enc p.2]) fun W h => ?_
    refine ⟨h.ob (b := ll), ?_⟩
    replace h := h.putO (b := ll) (o := .loop (rec .ready none)) (.loop (rec .busy none))
    replace h := (St.open2 (h.find (k := i))).2
    refine app2 ?_
    (repeat (first | (with_reducible refine ift ?_) | (with_reducible refine iff' ?_) | (with_reducible refine a_lss ?_) | (with_reducible refine a_leq ?_) | (with_reducible refine a_gtr ?_) | (with_reducible refine a_geq ?_) | (with_reducible refine w_eql ?_) | (with_reducible refine w_neq ?_) | (with_reducible refine s_eql ?_) | (with_reducible refine s_neq ?_) | ((with_reducible refine a_add64 ?h0 ?h1 ?_); (case h0 => omega); (case h1 => omega);  skip) | ((with_reducible refine a_sub64 ?h0 ?h1 ?_); (case h0 => omega); (case h1 => omega);  skip) | ((with_reducible refine a_mul64 ?h0 ?h1 ?_); (case h0 => omega); (case h1 => omega);  skip) | (with_reducible refine a_notd ?_) | (with_reducible refine a_not ?_) | (with_reducible refine a_ext0 ?_) | (with_reducible refine a_ext1 ?_) | (with_reducible refine a_ext2 ?_) | (with_reducible refine x_len ?_) | (with_reducible refine x_lens ?_) | (with_reducible refine x_eqb ?_) | (with_reducible refine x_neb ?_) | (with_reducible refine x_nilP ?_) | (with_reducible refine x_nilPn ?_) | (with_reducible refine x_nilF ?_) | (with_reducible refine x_nilFF ?_) | (with_reducible refine w_eqlL ?_) | (with_reducible refine w_neqL ?_) | (with_reducible refine s_eqlL ?_) | (with_reducible refine ifnt ?_) | (with_reducible refine ifnf ?_) | (with_reducible refine x_eqB ?_) | (with_reducible refine x_neB ?_) | (with_reducible refine x_lssL ?_) | (with_reducible refine x_gtrL ?_) | (with_reducible refine x_geqL ?_) | (with_reducible refine s_neqL ?_) | (with_reducible refine St.load h ?_) | (with_reducible refine St.loadS h ?_) | (with_reducible refine a_fld0 ?_) | (with_reducible refine St.store h fun W h => ?_) | (with_reducible refine St.storeS h fun W h => ?_) | (with_reducible refine St.alloc h fun b W h => ?_) | (with_reducible refine St.allocS h fun b W h => ?_) | (with_reducible refine a_nil ?_) | (with_reducible refine ss_load ?_) | (with_reducible refine ss_loadS ?_) | (with_reducible refine ss_eqb ?_)))
    refine hY i [Enc.enc p.1, Enc.enc p.2] (by rw [List.getElem?_map, hp]; rfl) (Ky bx (Ob (.cells [yv].toArray 43 (0, 0))) :: Ky ll (Ob (.loop (rec .busy none))) :: I') _ _ h.to (fun W h => ?_) fun W h => ?_
    · (repeat (first | (with_reducible refine ift ?_) | (with_reducible refine iff' ?_) | (with_reducible refine a_lss ?_) | (with_reducible refine a_leq ?_) | (with_reducible refine a_gtr ?_) | (with_reducible refine a_geq ?_) | (with_reducible refine w_eql ?_) | (with_reducible refine w_neq ?_) | (with_reducible refine s_eql ?_) | (with_reducible refine s_neq ?_) | ((with_reducible refine a_add64 ?h0 ?h1 ?_); (case h0 => omega); (case h1 => omega);  skip) | ((with_reducible refine a_sub64 ?h0 ?h1 ?_); (case h0 => omega); (case h1 => omega);  skip) | ((with_reducible refine a_mul64 ?h0 ?h1 ?_); (case h0 => omega); (case h1 => omega);  skip) | (with_reducible refine a_notd ?_) | (with_reducible refine a_not ?_) | (with_reducible refine a_ext0 ?_) | (with_reducible refine a_ext1 ?_) | (with_reducible refine a_ext2 ?_) | (with_reducible refine x_len ?_) | (with_reducible refine x_lens ?_) | (with_reducible refine x_eqb ?_) | (with_reducible refine x_neb ?_) | (with_reducible refine x_nilP ?_) | (with_reducible refine x_nilPn ?_) | (with_reducible refine x_nilF ?_) | (with_reducible refine x_nilFF ?_) | (with_reducible refine w_eqlL ?_) | (with_reducible refine w_neqL ?_) | (with_reducible refine s_eqlL ?_) | (with_reducible refine ifnt ?_) | (with_reducible refine ifnf ?_) | (with_reducible refine x_eqB ?_) | (with_reducible refine x_neB ?_) | (with_reducible refine x_lssL ?_) | (with_reducible refine x_gtrL ?_) | (with_reducible refine x_geqL ?_) | (with_reducible refine s_neqL ?_) | (with_reducible refine St.load h ?_) | (with_reducible refine St.loadS h ?_) | (with_reducible refine a_fld0 ?_) | (with_reducible refine St.store h fun W h => ?_) | (with_reducible refine St.storeS h fun W h => ?_) | (with_reducible refine St.alloc h fun b W h => ?_) | (with_reducible refine St.allocS h fun b W h => ?_) | (with_reducible refine a_nil ?_) | (with_reducible refine ss_load ?_) | (with_reducible refine ss_loadS ?_) | (with_reducible refine ss_eqb ?_)))
      exact hn W (St.swap (St.shut2 trivial h.to))
    · (repeat (first | (with_reducible refine ift ?_) | (with_reducible refine iff' ?_) | (with_reducible refine a_lss ?_) | (with_reducible refine a_leq ?_) | (with_reducible refine a_gtr ?_) | (with_reducible refine a_geq ?_) | (with_reducible refine w_eql ?_) | (with_reducible refine w_neq ?_) | (with_reducible refine s_eql ?_) | (with_reducible refine s_neq ?_) | ((with_reducible refine a_add64 ?h0 ?h1 ?_); (case h0 => omega); (case h1 => omega);  skip) | ((with_reducible refine a_sub64 ?h0 ?h1 ?_); (case h0 => omega); (case h1 => omega);  skip) | ((with_reducible refine a_mul64 ?h0 ?h1 ?_); (case h0 => omega); (case h1 => omega);  skip) | (with_reducible refine a_notd ?_) | (with_reducible refine a_not ?_) | (with_reducible refine a_ext0 ?_) | (with_reducible refine a_ext1 ?_) | (with_reducible refine a_ext2 ?_) | (with_reducible refine x_len ?_) | (with_reducible refine x_lens ?_) | (with_reducible refine x_eqb ?_) | (with_reducible refine x_neb ?_) | (with_reducible refine x_nilP ?_) | (with_reducible refine x_nilPn ?_) | (with_reducible refine x_nilF ?_) | (with_reducible refine x_nilFF ?_) | (with_reducible refine w_eqlL ?_) | (with_reducible refine w_neqL ?_) | (with_reducible refine s_eqlL ?_) | (with_reducible refine ifnt ?_) | (with_reducible refine ifnf ?_) | (with_reducible refine x_eqB ?_) | (with_reducible refine x_neB ?_) | (with_reducible refine x_lssL ?_) | (with_reducible refine x_gtrL ?_) | (with_reducible refine x_geqL ?_) | (with_reducible refine s_neqL ?_) | (with_reducible refine St.load h ?_) | (with_reducible refine St.loadS h ?_) | (with_reducible refine a_fld0 ?_) | (with_reducible refine St.store h fun W h => ?_) | (with_reducible refine St.storeS h fun W h => ?_) | (with_reducible refine St.alloc h fun b W h => ?_) | (with_reducible refine St.allocS h fun b W h => ?_) | (with_reducible refine a_nil ?_) | (with_reducible refine ss_load ?_) | (with_reducible refine ss_loadS ?_) | (with_reducible refine ss_eqb ?_)))
      exact hk .ret W (St.swap (St.shut1 rfl h.to))
  · intro DD W h
    have h2 := (St.open2 h.swap).2
    refine ⟨h2.ob (b := DD), hd _ ?_⟩
    rw [List.length_map, List.length_reverse, ← backV_len m]
    exact back _ _ _ (h2.putO (b := DD) (o := .deferred (some [])) (.deferred none)).to
  · intro DD c i W hi h
    obtain ⟨rfl, h2⟩ := St.open1 h.swap
    refine ⟨h2.ob (b := DD), hs i _ (by rw [List.length_map, List.length_reverse, ← backV_len m]; exact hi) ?_⟩
    exact back _ _ _ (h2.putO (b := DD) (o := .deferred (some [])) (.deferred none)).to

theorem back_spec [i : Has l v (Mpis m) R] (h : St w0 G l W) (hl : m.length ≤ 1000000) (k : ∀ f b W', Itr Try.prog w0 G f (tellis m.reverse) (ItAis b v m) → St w0 G (Ky f (ItAis b v m) :: R) W' → RR f W') :
    CallF Try.prog 86 #[v] W RR := by
  refine sh86_calls ?_
  unfold sh86
  obtain ⟨bm, rfl, _⟩ := h.ptrM (v := v)
  refine h.boxV fun b W h => ?_
  refine v_func ?_
  exact k _ b W (back1_itr hl) (h.two (a := b) (b := (.pointer (some ⟨bm, 0, none⟩) : Value)))
end
end Go.Proofs.Ytdjgchofnkancaa
