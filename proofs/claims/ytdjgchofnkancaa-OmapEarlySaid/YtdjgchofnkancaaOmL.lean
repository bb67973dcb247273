/-
  MAPS IN ORDER (int, string): the pairs told while the taker turns the map; OmapEarly: the walk.
-/
import Derived.Test.YtdjgchofnkancaaEzIth
import Derived.Test.YtdjgchofnkancaaOmV
import Derived.Test.YtdjgchofnkancaaOmN
import Derived.Test.YtdjgchofnkancaaOmF
import Derived.Test.YtdjgchofnkancaaOmMis
import Derived.Test.YtdjgchofnkancaaOmDis
namespace Go.Proofs.Ytdjgchofnkancaa
open Go Go.Ez Go.RowKit
set_option linter.unusedSimpArgs false
set_option linter.unusedVariables false

/-- what All stands on, but the map itself -/
def ItLis (b : Nat) (v : Value) (_ : Value) : As := As.all True [Ky b (Ob (.cells [v].toArray 41 (0, 0)))]

section
variable {w0 W : World} {G : Nat → Prop} {l R : List As} {m : List (Int × Txt)} {v : Value} {RR : Value → World → Prop}

theorem all1is_itH {b : Nat} (hl : m.length ≤ 1000000) : ItH Try.prog w0 G (.func (.func 75) #[] #[.pointer (some ⟨b, 0, none⟩)]) (tellis m) (ItLis b v) (Ky v (Mpis m)) := by
  refine ⟨75, _, rfl, hent _ (by kernel_rfl), fun yv C D C0 I W RR oy hY hin hout h hd hs => ?_⟩
  show CallF Try.prog 75 #[yv, .pointer (some ⟨b, 0, none⟩)] W RR
  refine sh75_calls ?_
  unfold sh75
  have hpl := pcells_length m
  replace h := (St.open1 ((hin _ _ h).find (k := (.func (.func 75) #[] #[.pointer (some ⟨b, 0, none⟩)] : Value)) (X := ItLis b v))).2
  obtain ⟨bm, hv, _⟩ := h.ptrM (v := v)
  refine h.load ?_
  subst hv
  obtain ⟨bm', sl, e1, hsr, o, h⟩ := h.openM (v := .pointer (some ⟨bm, 0, none⟩))
  cases e1
  (repeat (first | (with_reducible refine ift ?_) | (with_reducible refine iff' ?_) | (with_reducible refine a_lss ?_) | (with_reducible refine a_leq ?_) | (with_reducible refine a_gtr ?_) | (with_reducible refine a_geq ?_) | (with_reducible refine w_eql ?_) | (with_reducible refine w_neq ?_) | (with_reducible refine s_eql ?_) | (with_reducible refine s_neq ?_) | ((with_reducible refine a_add64 ?h0 ?h1 ?_); (case h0 => omega); (case h1 => omega);  skip) | ((with_reducible refine a_sub64 ?h0 ?h1 ?_); (case h0 => omega); (case h1 => omega);  skip) | ((with_reducible refine a_mul64 ?h0 ?h1 ?_); (case h0 => omega); (case h1 => omega);  skip) | (with_reducible refine a_notd ?_) | (with_reducible refine a_not ?_) | (with_reducible refine a_ext0 ?_) | (with_reducible refine a_ext1 ?_) | (with_reducible refine a_ext2 ?_) | (with_reducible refine x_len ?_) | (with_reducible refine x_lens ?_) | (with_reducible refine x_eqb ?_) | (with_reducible refine x_neb ?_) | (with_reducible refine x_nilP ?_) | (with_reducible refine x_nilPn ?_) | (with_reducible refine x_nilF ?_) | (with_reducible refine x_nilFF ?_) | (with_reducible refine w_eqlL ?_) | (with_reducible refine w_neqL ?_) | (with_reducible refine s_eqlL ?_) | (with_reducible refine ifnt ?_) | (with_reducible refine ifnf ?_) | (with_reducible refine x_eqB ?_) | (with_reducible refine x_neB ?_) | (with_reducible refine x_lssL ?_) | (with_reducible refine x_gtrL ?_) | (with_reducible refine x_geqL ?_) | (with_reducible refine s_neqL ?_) | (with_reducible refine St.load h ?_) | (with_reducible refine St.loadS h ?_) | (with_reducible refine a_fld0 ?_) | (with_reducible refine St.store h fun W h => ?_) | (with_reducible refine St.storeS h fun W h => ?_) | (with_reducible refine St.alloc h fun b W h => ?_) | (with_reducible refine St.allocS h fun b W h => ?_) | (with_reducible refine a_nil ?_) | (with_reducible refine ss_load ?_) | (with_reducible refine ss_loadS ?_) | (with_reducible refine ss_eqb ?_)))
  refine cloneis_spec (h.osl (v := sl)) (pcells_one m) (by omega) fun cl W1 g1 g2 => ?_
  replace h := (h.take g2 g1).shutM (b := bm) (sl := sl) hsr rfl rfl
  have h0 : St w0 G (Ky (.pointer (some ⟨bm, 0, none⟩) : Value) (Mpis m) :: Ky 0 C0 :: Ky cl (Ow 123 2 m.length (pcells m)) :: Ky b (Ob (.cells [(.pointer (some ⟨bm, 0, none⟩) : Value)].toArray 41 (0, 0))) :: I) W1 := h.to
  refine x_lenS (h.osl (v := cl)) ?_
  have back : ∀ (j : Nat) (E : Nat → As) (W : World), St w0 G (Ky j E :: Ky cl (Ow 123 2 m.length (pcells m)) :: Ky b (Ob (.cells [(.pointer (some ⟨bm, 0, none⟩) : Value)].toArray 41 (0, 0))) :: I) W →
      St w0 G (Ky j E :: Ky (.func (.func 75) #[] #[.pointer (some ⟨b, 0, none⟩)] : Value) (ItLis b (.pointer (some ⟨bm, 0, none⟩))) :: I) W := fun j E W h =>
    St.swap (St.shut1 (φ := True) trivial h.to)
  refine lpx (α := Nat) (fun i => [nV .i64 i]) (fun i W => i ≤ m.length ∧ St w0 G (Ky i C :: Ky cl (Ow 123 2 m.length (pcells m)) :: Ky b (Ob (.cells [(.pointer (some ⟨bm, 0, none⟩) : Value)].toArray 41 (0, 0))) :: I) W)
    (fun i => m.length - i) 0 (fun _ => rfl) rfl ⟨Nat.zero_le _, hout _ _ h0⟩ ?_
  clear h h0 hin hout
  rintro next i W hnext ⟨hi, h⟩
  refine app1 ?_
  refine a_lss (ifd (fun hc => ?_) fun hc => ?_)
  · have hil : i < m.length := by omega
    obtain ⟨p, hp⟩ : ∃ p, m[i]? = some p := ⟨_, List.getElem?_eq_getElem hil⟩
    refine pcells_sl (h.osl (v := cl)) hp ?_
    refine h.allocS fun pb W h => ?_
    refine h.storeS (cs' := [Enc.enc p.1, Enc.enc p.2]) fun W h => ?_
    (repeat (first | (with_reducible refine ift ?_) | (with_reducible refine iff' ?_) | (with_reducible refine a_lss ?_) | (with_reducible refine a_leq ?_) | (with_reducible refine a_gtr ?_) | (with_reducible refine a_geq ?_) | (with_reducible refine w_eql ?_) | (with_reducible refine w_neq ?_) | (with_reducible refine s_eql ?_) | (with_reducible refine s_neq ?_) | ((with_reducible refine a_add64 ?h0 ?h1 ?_); (case h0 => omega); (case h1 => omega);  skip) | ((with_reducible refine a_sub64 ?h0 ?h1 ?_); (case h0 => omega); (case h1 => omega);  skip) | ((with_reducible refine a_mul64 ?h0 ?h1 ?_); (case h0 => omega); (case h1 => omega);  skip) | (with_reducible refine a_notd ?_) | (with_reducible refine a_not ?_) | (with_reducible refine a_ext0 ?_) | (with_reducible refine a_ext1 ?_) | (with_reducible refine a_ext2 ?_) | (with_reducible refine x_len ?_) | (with_reducible refine x_lens ?_) | (with_reducible refine x_eqb ?_) | (with_reducible refine x_neb ?_) | (with_reducible refine x_nilP ?_) | (with_reducible refine x_nilPn ?_) | (with_reducible refine x_nilF ?_) | (with_reducible refine x_nilFF ?_) | (with_reducible refine w_eqlL ?_) | (with_reducible refine w_neqL ?_) | (with_reducible refine s_eqlL ?_) | (with_reducible refine ifnt ?_) | (with_reducible refine ifnf ?_) | (with_reducible refine x_eqB ?_) | (with_reducible refine x_neB ?_) | (with_reducible refine x_lssL ?_) | (with_reducible refine x_gtrL ?_) | (with_reducible refine x_geqL ?_) | (with_reducible refine s_neqL ?_) | (with_reducible refine St.load h ?_) | (with_reducible refine St.loadS h ?_) | (with_reducible refine a_fld0 ?_) | (with_reducible refine St.store h fun W h => ?_) | (with_reducible refine St.storeS h fun W h => ?_) | (with_reducible refine St.alloc h fun b W h => ?_) | (with_reducible refine St.allocS h fun b W h => ?_) | (with_reducible refine a_nil ?_) | (with_reducible refine ss_load ?_) | (with_reducible refine ss_loadS ?_) | (with_reducible refine ss_eqb ?_)))
    refine hY i [Enc.enc p.1, Enc.enc p.2] (by rw [List.getElem?_map, hp]; rfl) (Ky pb (Ob (.cells [Enc.enc p.1, Enc.enc p.2].toArray 123 (0, 0))) :: Ky cl (Ow 123 2 m.length (pcells m)) :: Ky b (Ob (.cells [(.pointer (some ⟨bm, 0, none⟩) : Value)].toArray 41 (0, 0))) :: I) W _ h.to (fun W h => ?_) fun W h => ?_
    · (repeat (first | (with_reducible refine ift ?_) | (with_reducible refine iff' ?_) | (with_reducible refine a_lss ?_) | (with_reducible refine a_leq ?_) | (with_reducible refine a_gtr ?_) | (with_reducible refine a_geq ?_) | (with_reducible refine w_eql ?_) | (with_reducible refine w_neq ?_) | (with_reducible refine s_eql ?_) | (with_reducible refine s_neq ?_) | ((with_reducible refine a_add64 ?h0 ?h1 ?_); (case h0 => omega); (case h1 => omega);  skip) | ((with_reducible refine a_sub64 ?h0 ?h1 ?_); (case h0 => omega); (case h1 => omega);  skip) | ((with_reducible refine a_mul64 ?h0 ?h1 ?_); (case h0 => omega); (case h1 => omega);  skip) | (with_reducible refine a_notd ?_) | (with_reducible refine a_not ?_) | (with_reducible refine a_ext0 ?_) | (with_reducible refine a_ext1 ?_) | (with_reducible refine a_ext2 ?_) | (with_reducible refine x_len ?_) | (with_reducible refine x_lens ?_) | (with_reducible refine x_eqb ?_) | (with_reducible refine x_neb ?_) | (with_reducible refine x_nilP ?_) | (with_reducible refine x_nilPn ?_) | (with_reducible refine x_nilF ?_) | (with_reducible refine x_nilFF ?_) | (with_reducible refine w_eqlL ?_) | (with_reducible refine w_neqL ?_) | (with_reducible refine s_eqlL ?_) | (with_reducible refine ifnt ?_) | (with_reducible refine ifnf ?_) | (with_reducible refine x_eqB ?_) | (with_reducible refine x_neB ?_) | (with_reducible refine x_lssL ?_) | (with_reducible refine x_gtrL ?_) | (with_reducible refine x_geqL ?_) | (with_reducible refine s_neqL ?_) | (with_reducible refine St.load h ?_) | (with_reducible refine St.loadS h ?_) | (with_reducible refine a_fld0 ?_) | (with_reducible refine St.store h fun W h => ?_) | (with_reducible refine St.storeS h fun W h => ?_) | (with_reducible refine St.alloc h fun b W h => ?_) | (with_reducible refine St.allocS h fun b W h => ?_) | (with_reducible refine a_nil ?_) | (with_reducible refine ss_load ?_) | (with_reducible refine ss_loadS ?_) | (with_reducible refine ss_eqb ?_)))
      rw [show ((i : Int) + 1) = ((i + 1 : Nat) : Int) by push_cast; rfl]
      exact ⟨rfl, rfl, rfl, hnext (i + 1) W (by omega) ⟨by omega, h.to⟩⟩
    · (repeat (first | (with_reducible refine ift ?_) | (with_reducible refine iff' ?_) | (with_reducible refine a_lss ?_) | (with_reducible refine a_leq ?_) | (with_reducible refine a_gtr ?_) | (with_reducible refine a_geq ?_) | (with_reducible refine w_eql ?_) | (with_reducible refine w_neq ?_) | (with_reducible refine s_eql ?_) | (with_reducible refine s_neq ?_) | ((with_reducible refine a_add64 ?h0 ?h1 ?_); (case h0 => omega); (case h1 => omega);  skip) | ((with_reducible refine a_sub64 ?h0 ?h1 ?_); (case h0 => omega); (case h1 => omega);  skip) | ((with_reducible refine a_mul64 ?h0 ?h1 ?_); (case h0 => omega); (case h1 => omega);  skip) | (with_reducible refine a_notd ?_) | (with_reducible refine a_not ?_) | (with_reducible refine a_ext0 ?_) | (with_reducible refine a_ext1 ?_) | (with_reducible refine a_ext2 ?_) | (with_reducible refine x_len ?_) | (with_reducible refine x_lens ?_) | (with_reducible refine x_eqb ?_) | (with_reducible refine x_neb ?_) | (with_reducible refine x_nilP ?_) | (with_reducible refine x_nilPn ?_) | (with_reducible refine x_nilF ?_) | (with_reducible refine x_nilFF ?_) | (with_reducible refine w_eqlL ?_) | (with_reducible refine w_neqL ?_) | (with_reducible refine s_eqlL ?_) | (with_reducible refine ifnt ?_) | (with_reducible refine ifnf ?_) | (with_reducible refine x_eqB ?_) | (with_reducible refine x_neB ?_) | (with_reducible refine x_lssL ?_) | (with_reducible refine x_gtrL ?_) | (with_reducible refine x_geqL ?_) | (with_reducible refine s_neqL ?_) | (with_reducible refine St.load h ?_) | (with_reducible refine St.loadS h ?_) | (with_reducible refine a_fld0 ?_) | (with_reducible refine St.store h fun W h => ?_) | (with_reducible refine St.storeS h fun W h => ?_) | (with_reducible refine St.alloc h fun b W h => ?_) | (with_reducible refine St.allocS h fun b W h => ?_) | (with_reducible refine a_nil ?_) | (with_reducible refine ss_load ?_) | (with_reducible refine ss_loadS ?_) | (with_reducible refine ss_eqb ?_)))
      exact hs (i + 1) W (by rw [List.length_map]; omega) (back _ _ W h.to)
  · have hil : i = m.length := by omega
    subst hil
    exact hd W (by rw [List.length_map]; exact back _ _ W h)

theorem allLis_spec [i : Has l v (Mpis m) R] (h : St w0 G l W) (hl : m.length ≤ 1000000) (k : ∀ f b W', ItH Try.prog w0 G f (tellis m) (ItLis b v) (Ky v (Mpis m)) → St w0 G (Ky f (ItLis b v) :: Ky v (Mpis m) :: R) W' → RR f W') :
    CallF Try.prog 28 #[v] W RR := by
  refine sh28_calls ?_
  unfold sh28
  obtain ⟨bm, rfl, _⟩ := h.ptrM (v := v)
  replace h := h.find (k := (.pointer (some ⟨bm, 0, none⟩) : Value)) (X := Mpis m)
  refine h.boxV fun b W h => ?_
  refine v_func ?_
  exact k _ b W (all1is_itH hl) (St.shut1 (φ := True) trivial h)

/-- what meanwhile has, but the map -/
abbrev MwL (b2 b3 ba bi : Nat) (mv lv va : Value) (m : List (Int × Txt)) (i : Nat) : List As := [Ky b2 (Ob (.cells [mv].toArray 41 (0, 0))), Ky b3 (Ob (.cells [lv].toArray 40 (0, 0))), Ky ba (Ob (.cells [va].toArray 46 (0, 0))), Ky bi (Ob (.cells [nV .i64 i].toArray 3 (0, 0))), Ky va (Ow 3 1 i (((m.take i).map Prod.fst).map Enc.enc))]
def MwC (b2 b3 ba bi : Nat) (mv lv : Value) (m : List (Int × Txt)) (i : Nat) : As := As.ex fun x : Value × List (Int × Txt) => As.all (x.2.length ≤ m.length + i ∧ (i = 0 → x.2 = m)) (Ky mv (Mpis x.2) :: MwL b2 b3 ba bi mv lv x.1 m i)
def MwC0 (b2 b3 ba bi : Nat) (mv lv : Value) (m : List (Int × Txt)) (i : Nat) : As := As.ex fun va : Value => As.all True (MwL b2 b3 ba bi mv lv va m i)
theorem mwIn {b2 b3 ba bi : Nat} {mv lv : Value} {J : List As} (h : St w0 G (Ky 0 (MwC b2 b3 ba bi mv lv m) :: J) W) : St w0 G (Ky mv (Mpis m) :: Ky 0 (MwC0 b2 b3 ba bi mv lv m) :: J) W := by
  obtain ⟨⟨va, m'⟩, h⟩ := St.openE h
  obtain ⟨⟨_, hm⟩, h⟩ := St.openA h
  obtain rfl : m' = m := hm rfl
  refine St.swap (St.shutE va (St.shutA trivial ?_))
  show St w0 G (Ky b2 (Ob (.cells [mv].toArray 41 (0, 0))) :: Ky b3 (Ob (.cells [lv].toArray 40 (0, 0))) :: Ky ba (Ob (.cells [va].toArray 46 (0, 0))) :: Ky bi (Ob (.cells [nV .i64 0].toArray 3 (0, 0))) :: Ky va (Ow 3 1 0 (((m'.take 0).map Prod.fst).map Enc.enc)) :: Ky mv (Mpis m') :: J) W
  have h' : St w0 G (Ky mv (Mpis m') :: Ky b2 (Ob (.cells [mv].toArray 41 (0, 0))) :: Ky b3 (Ob (.cells [lv].toArray 40 (0, 0))) :: Ky ba (Ob (.cells [va].toArray 46 (0, 0))) :: Ky bi (Ob (.cells [nV .i64 0].toArray 3 (0, 0))) :: Ky va (Ow 3 1 0 (((m'.take 0).map Prod.fst).map Enc.enc)) :: J) W := h
  exact h'.to
theorem mwOut {b2 b3 ba bi : Nat} {mv lv : Value} {J : List As} (h : St w0 G (Ky mv (Mpis m) :: Ky 0 (MwC0 b2 b3 ba bi mv lv m) :: J) W) : St w0 G (Ky 0 (MwC b2 b3 ba bi mv lv m) :: J) W := by
  obtain ⟨va, h⟩ := St.openE h.swap
  obtain ⟨_, h⟩ := St.openA h
  refine St.shutE (va, m) (St.shutA ⟨Nat.le_refl _, fun _ => rfl⟩ ?_)
  show St w0 G (Ky mv (Mpis m) :: Ky b2 (Ob (.cells [mv].toArray 41 (0, 0))) :: Ky b3 (Ob (.cells [lv].toArray 40 (0, 0))) :: Ky ba (Ob (.cells [va].toArray 46 (0, 0))) :: Ky bi (Ob (.cells [nV .i64 0].toArray 3 (0, 0))) :: Ky va (Ow 3 1 0 (((m.take 0).map Prod.fst).map Enc.enc)) :: J) W
  have h' : St w0 G (Ky b2 (Ob (.cells [mv].toArray 41 (0, 0))) :: Ky b3 (Ob (.cells [lv].toArray 40 (0, 0))) :: Ky ba (Ob (.cells [va].toArray 46 (0, 0))) :: Ky bi (Ob (.cells [nV .i64 0].toArray 3 (0, 0))) :: Ky va (Ow 3 1 0 (((m.take 0).map Prod.fst).map Enc.enc)) :: Ky mv (Mpis m) :: J) W := h
  exact h'.to

/-- hbllaw2.meanwhile -/
theorem meanwhile_spec {lc : List Call} {lv : Value} [i : Has l v (Mpis m) R] (h : St w0 G0 l W) (hs : Sl w0 4 lv lc.length (callsC lc)) (hl : m.length ≤ 1000) (hb : lc.length ≤ 1000)
    (k : ∀ va m' W', Cel1 va → St w0 G0 (Ky va (Ow 3 1 m.length ((m.map Prod.fst).map Enc.enc)) :: Ky v (Mpis m') :: R) W' → RR va W') :
    CallF Try.prog 45 #[v, lv] W RR := by
  refine sh45_calls ?_
  unfold sh45
  obtain ⟨bm, rfl, _⟩ := h.ptrM (v := v)
  replace h := h.find (k := (.pointer (some ⟨bm, 0, none⟩) : Value)) (X := Mpis m)
  have ol : Cel1 lv := .of_sl hs
  refine h.boxV fun b2 W h => ?_
  refine h.boxV fun b3 W h => ?_
  refine h.alloc fun ba W h => ?_
  refine h.alloc fun bi W h => ?_
  (repeat (first | (with_reducible refine ift ?_) | (with_reducible refine iff' ?_) | (with_reducible refine a_lss ?_) | (with_reducible refine a_leq ?_) | (with_reducible refine a_gtr ?_) | (with_reducible refine a_geq ?_) | (with_reducible refine w_eql ?_) | (with_reducible refine w_neq ?_) | (with_reducible refine s_eql ?_) | (with_reducible refine s_neq ?_) | ((with_reducible refine a_add64 ?h0 ?h1 ?_); (case h0 => omega); (case h1 => omega);  skip) | ((with_reducible refine a_sub64 ?h0 ?h1 ?_); (case h0 => omega); (case h1 => omega);  skip) | ((with_reducible refine a_mul64 ?h0 ?h1 ?_); (case h0 => omega); (case h1 => omega);  skip) | (with_reducible refine a_notd ?_) | (with_reducible refine a_not ?_) | (with_reducible refine a_ext0 ?_) | (with_reducible refine a_ext1 ?_) | (with_reducible refine a_ext2 ?_) | (with_reducible refine x_len ?_) | (with_reducible refine x_lens ?_) | (with_reducible refine x_eqb ?_) | (with_reducible refine x_neb ?_) | (with_reducible refine x_nilP ?_) | (with_reducible refine x_nilPn ?_) | (with_reducible refine x_nilF ?_) | (with_reducible refine x_nilFF ?_) | (with_reducible refine w_eqlL ?_) | (with_reducible refine w_neqL ?_) | (with_reducible refine s_eqlL ?_) | (with_reducible refine ifnt ?_) | (with_reducible refine ifnf ?_) | (with_reducible refine x_eqB ?_) | (with_reducible refine x_neB ?_) | (with_reducible refine x_lssL ?_) | (with_reducible refine x_gtrL ?_) | (with_reducible refine x_geqL ?_) | (with_reducible refine s_neqL ?_) | (with_reducible refine St.load h ?_) | (with_reducible refine St.loadS h ?_) | (with_reducible refine a_fld0 ?_) | (with_reducible refine St.store h fun W h => ?_) | (with_reducible refine St.storeS h fun W h => ?_) | (with_reducible refine St.alloc h fun b W h => ?_) | (with_reducible refine St.allocS h fun b W h => ?_) | (with_reducible refine a_nil ?_) | (with_reducible refine ss_load ?_) | (with_reducible refine ss_loadS ?_) | (with_reducible refine ss_eqb ?_)))
  refine allLis_spec (v := .pointer (some ⟨bm, 0, none⟩)) h (by omega) fun f bf W hI h => ?_
  obtain ⟨gf, lb, rfl, _⟩ := id hI
  (repeat (first | (with_reducible refine ift ?_) | (with_reducible refine iff' ?_) | (with_reducible refine a_lss ?_) | (with_reducible refine a_leq ?_) | (with_reducible refine a_gtr ?_) | (with_reducible refine a_geq ?_) | (with_reducible refine w_eql ?_) | (with_reducible refine w_neq ?_) | (with_reducible refine s_eql ?_) | (with_reducible refine s_neq ?_) | ((with_reducible refine a_add64 ?h0 ?h1 ?_); (case h0 => omega); (case h1 => omega);  skip) | ((with_reducible refine a_sub64 ?h0 ?h1 ?_); (case h0 => omega); (case h1 => omega);  skip) | ((with_reducible refine a_mul64 ?h0 ?h1 ?_); (case h0 => omega); (case h1 => omega);  skip) | (with_reducible refine a_notd ?_) | (with_reducible refine a_not ?_) | (with_reducible refine a_ext0 ?_) | (with_reducible refine a_ext1 ?_) | (with_reducible refine a_ext2 ?_) | (with_reducible refine x_len ?_) | (with_reducible refine x_lens ?_) | (with_reducible refine x_eqb ?_) | (with_reducible refine x_neb ?_) | (with_reducible refine x_nilP ?_) | (with_reducible refine x_nilPn ?_) | (with_reducible refine x_nilF ?_) | (with_reducible refine x_nilFF ?_) | (with_reducible refine w_eqlL ?_) | (with_reducible refine w_neqL ?_) | (with_reducible refine s_eqlL ?_) | (with_reducible refine ifnt ?_) | (with_reducible refine ifnf ?_) | (with_reducible refine x_eqB ?_) | (with_reducible refine x_neB ?_) | (with_reducible refine x_lssL ?_) | (with_reducible refine x_gtrL ?_) | (with_reducible refine x_geqL ?_) | (with_reducible refine s_neqL ?_) | (with_reducible refine St.load h ?_) | (with_reducible refine St.loadS h ?_) | (with_reducible refine a_fld0 ?_) | (with_reducible refine St.store h fun W h => ?_) | (with_reducible refine St.storeS h fun W h => ?_) | (with_reducible refine St.alloc h fun b W h => ?_) | (with_reducible refine St.allocS h fun b W h => ?_) | (with_reducible refine a_nil ?_) | (with_reducible refine ss_load ?_) | (with_reducible refine ss_loadS ?_) | (with_reducible refine ss_eqb ?_)))
  have hlen : ∀ x ∈ tellis m, x.length = 2 := by
    intro x hx
    obtain ⟨p, _, rfl⟩ := List.mem_map.1 hx
    rfl
  have h0 : St w0 G0 (Ky (.slice none 0 0 : Value) (Ow 3 1 0 (((m.take 0).map Prod.fst).map Enc.enc)) :: _) W := h.nilOw
  refine rngH (C := MwC b2 b3 ba bi (.pointer (some ⟨bm, 0, none⟩)) lv m) (fun c i => As.all False []) hI (MwC0 b2 b3 ba bi (.pointer (some ⟨bm, 0, none⟩)) lv m) (fun J W h => mwIn h) (fun J W h => mwOut h) hlen (l := R) ?_ ?_ ?_ ?_
  · refine mwOut (St.swap (St.shutE (.slice none 0 0) (St.shutA trivial ?_)))
    show St w0 G0 (Ky b2 (Ob (.cells [(.pointer (some ⟨bm, 0, none⟩) : Value)].toArray 41 (0, 0))) :: Ky b3 (Ob (.cells [lv].toArray 40 (0, 0))) :: Ky ba (Ob (.cells [(.slice none 0 0 : Value)].toArray 46 (0, 0))) :: Ky bi (Ob (.cells [nV .i64 0].toArray 3 (0, 0))) :: Ky (.slice none 0 0 : Value) (Ow 3 1 0 (((m.take 0).map Prod.fst).map Enc.enc)) :: Ky (.pointer (some ⟨bm, 0, none⟩) : Value) (Mpis m) :: Ky (.func (.func gf) #[] lb : Value) (ItLis bf (.pointer (some ⟨bm, 0, none⟩))) :: R) W
    exact h0.to
  · intro i x hxi ll rec I' W kn kst h hn hk
    obtain ⟨p, hp, rfl⟩ : ∃ p, m[i]? = some p ∧ x = [Enc.enc p.1, Enc.enc p.2] := by
      rw [List.getElem?_map] at hxi
      cases hp : m[i]? with
      | none => rw [hp] at hxi; cases hxi
      | some p => rw [hp] at hxi; cases hxi; exact ⟨p, rfl, rfl⟩
    have hil := (List.getElem?_eq_some_iff.1 hp).1
    refine app2 ?_
    refine ⟨h.ob (b := ll), ?_⟩
    replace h := h.putO (b := ll) (o := .loop (rec .ready none)) (.loop (rec .busy none))
    obtain ⟨⟨va, m'⟩, h⟩ := St.openE h.swap
    obtain ⟨⟨hm', _⟩, h⟩ := St.openA h
    simp only at hm'
    replace h : St w0 G0 (Ky (.pointer (some ⟨bm, 0, none⟩) : Value) (Mpis m') :: Ky b2 (Ob (.cells [(.pointer (some ⟨bm, 0, none⟩) : Value)].toArray 41 (0, 0))) :: Ky b3 (Ob (.cells [lv].toArray 40 (0, 0))) :: Ky ba (Ob (.cells [va].toArray 46 (0, 0))) :: Ky bi (Ob (.cells [nV .i64 i].toArray 3 (0, 0))) :: Ky va (Ow 3 1 i (((m.take i).map Prod.fst).map Enc.enc)) :: Ky ll (Ob (.loop (rec .busy none))) :: I') _ := h
    have oa : Cel1 va := .of_own (h.ow (v := va))
    have e1 : ((m.take i).map Prod.fst).map (Enc.enc (κ := Int)) ++ [Enc.enc p.1] = ((m.take (i + 1)).map Prod.fst).map Enc.enc := by
      rw [List.take_add_one, hp]; simp
    generalize W.putObj ll (.loop (rec .busy none)) = Wb at *
    refine app5 ?_
    (repeat (first | (with_reducible refine ift ?_) | (with_reducible refine iff' ?_) | (with_reducible refine a_lss ?_) | (with_reducible refine a_leq ?_) | (with_reducible refine a_gtr ?_) | (with_reducible refine a_geq ?_) | (with_reducible refine w_eql ?_) | (with_reducible refine w_neq ?_) | (with_reducible refine s_eql ?_) | (with_reducible refine s_neq ?_) | ((with_reducible refine a_add64 ?h0 ?h1 ?_); (case h0 => omega); (case h1 => omega);  skip) | ((with_reducible refine a_sub64 ?h0 ?h1 ?_); (case h0 => omega); (case h1 => omega);  skip) | ((with_reducible refine a_mul64 ?h0 ?h1 ?_); (case h0 => omega); (case h1 => omega);  skip) | (with_reducible refine a_notd ?_) | (with_reducible refine a_not ?_) | (with_reducible refine a_ext0 ?_) | (with_reducible refine a_ext1 ?_) | (with_reducible refine a_ext2 ?_) | (with_reducible refine x_len ?_) | (with_reducible refine x_lens ?_) | (with_reducible refine x_eqb ?_) | (with_reducible refine x_neb ?_) | (with_reducible refine x_nilP ?_) | (with_reducible refine x_nilPn ?_) | (with_reducible refine x_nilF ?_) | (with_reducible refine x_nilFF ?_) | (with_reducible refine w_eqlL ?_) | (with_reducible refine w_neqL ?_) | (with_reducible refine s_eqlL ?_) | (with_reducible refine ifnt ?_) | (with_reducible refine ifnf ?_) | (with_reducible refine x_eqB ?_) | (with_reducible refine x_neB ?_) | (with_reducible refine x_lssL ?_) | (with_reducible refine x_gtrL ?_) | (with_reducible refine x_geqL ?_) | (with_reducible refine s_neqL ?_) | (with_reducible refine St.load h ?_) | (with_reducible refine St.loadS h ?_) | (with_reducible refine a_fld0 ?_) | (with_reducible refine St.store h fun W h => ?_) | (with_reducible refine St.storeS h fun W h => ?_) | (with_reducible refine St.alloc h fun b W h => ?_) | (with_reducible refine St.allocS h fun b W h => ?_) | (with_reducible refine a_nil ?_) | (with_reducible refine ss_load ?_) | (with_reducible refine ss_loadS ?_) | (with_reducible refine ss_eqb ?_)))
    refine h.lit (vs := [Enc.enc p.1]) (fun u1 W o1 h => ?_) (by decide)
    refine h.app (v := va) (h.osl (v := u1)) (by simp [Enc.one]) (by unfold maxLen; omega) (by omega) fun va' W o' h _ => ?_
    rw [e1] at h
    (repeat (first | (with_reducible refine ift ?_) | (with_reducible refine iff' ?_) | (with_reducible refine a_lss ?_) | (with_reducible refine a_leq ?_) | (with_reducible refine a_gtr ?_) | (with_reducible refine a_geq ?_) | (with_reducible refine w_eql ?_) | (with_reducible refine w_neq ?_) | (with_reducible refine s_eql ?_) | (with_reducible refine s_neq ?_) | ((with_reducible refine a_add64 ?h0 ?h1 ?_); (case h0 => omega); (case h1 => omega);  skip) | ((with_reducible refine a_sub64 ?h0 ?h1 ?_); (case h0 => omega); (case h1 => omega);  skip) | ((with_reducible refine a_mul64 ?h0 ?h1 ?_); (case h0 => omega); (case h1 => omega);  skip) | (with_reducible refine a_notd ?_) | (with_reducible refine a_not ?_) | (with_reducible refine a_ext0 ?_) | (with_reducible refine a_ext1 ?_) | (with_reducible refine a_ext2 ?_) | (with_reducible refine x_len ?_) | (with_reducible refine x_lens ?_) | (with_reducible refine x_eqb ?_) | (with_reducible refine x_neb ?_) | (with_reducible refine x_nilP ?_) | (with_reducible refine x_nilPn ?_) | (with_reducible refine x_nilF ?_) | (with_reducible refine x_nilFF ?_) | (with_reducible refine w_eqlL ?_) | (with_reducible refine w_neqL ?_) | (with_reducible refine s_eqlL ?_) | (with_reducible refine ifnt ?_) | (with_reducible refine ifnf ?_) | (with_reducible refine x_eqB ?_) | (with_reducible refine x_neB ?_) | (with_reducible refine x_lssL ?_) | (with_reducible refine x_gtrL ?_) | (with_reducible refine x_geqL ?_) | (with_reducible refine s_neqL ?_) | (with_reducible refine St.load h ?_) | (with_reducible refine St.loadS h ?_) | (with_reducible refine a_fld0 ?_) | (with_reducible refine St.store h fun W h => ?_) | (with_reducible refine St.storeS h fun W h => ?_) | (with_reducible refine St.alloc h fun b W h => ?_) | (with_reducible refine St.allocS h fun b W h => ?_) | (with_reducible refine a_nil ?_) | (with_reducible refine ss_load ?_) | (with_reducible refine ss_loadS ?_) | (with_reducible refine ss_eqb ?_)))
    refine jni (fun vs W => vs = [.pointer (some ⟨bi, 0, none⟩)] ∧ ∃ m'', m''.length ≤ m.length + (i + 1) ∧ St w0 G0 (Ky (.pointer (some ⟨bm, 0, none⟩) : Value) (Mpis m'') :: Ky b2 (Ob (.cells [(.pointer (some ⟨bm, 0, none⟩) : Value)].toArray 41 (0, 0))) :: Ky b3 (Ob (.cells [lv].toArray 40 (0, 0))) :: Ky ba (Ob (.cells [va'].toArray 46 (0, 0))) :: Ky bi (Ob (.cells [nV .i64 i].toArray 3 (0, 0))) :: Ky va' (Ow 3 1 (i + 1) (((m.take (i + 1)).map Prod.fst).map Enc.enc)) :: Ky ll (Ob (.loop (rec .busy none))) :: I') W) ?_ ?_
    · rintro vs W _ ⟨rfl, m'', hm'', h⟩
      refine app1 ?_
      (repeat (first | (with_reducible refine ift ?_) | (with_reducible refine iff' ?_) | (with_reducible refine a_lss ?_) | (with_reducible refine a_leq ?_) | (with_reducible refine a_gtr ?_) | (with_reducible refine a_geq ?_) | (with_reducible refine w_eql ?_) | (with_reducible refine w_neq ?_) | (with_reducible refine s_eql ?_) | (with_reducible refine s_neq ?_) | ((with_reducible refine a_add64 ?h0 ?h1 ?_); (case h0 => omega); (case h1 => omega);  skip) | ((with_reducible refine a_sub64 ?h0 ?h1 ?_); (case h0 => omega); (case h1 => omega);  skip) | ((with_reducible refine a_mul64 ?h0 ?h1 ?_); (case h0 => omega); (case h1 => omega);  skip) | (with_reducible refine a_notd ?_) | (with_reducible refine a_not ?_) | (with_reducible refine a_ext0 ?_) | (with_reducible refine a_ext1 ?_) | (with_reducible refine a_ext2 ?_) | (with_reducible refine x_len ?_) | (with_reducible refine x_lens ?_) | (with_reducible refine x_eqb ?_) | (with_reducible refine x_neb ?_) | (with_reducible refine x_nilP ?_) | (with_reducible refine x_nilPn ?_) | (with_reducible refine x_nilF ?_) | (with_reducible refine x_nilFF ?_) | (with_reducible refine w_eqlL ?_) | (with_reducible refine w_neqL ?_) | (with_reducible refine s_eqlL ?_) | (with_reducible refine ifnt ?_) | (with_reducible refine ifnf ?_) | (with_reducible refine x_eqB ?_) | (with_reducible refine x_neB ?_) | (with_reducible refine x_lssL ?_) | (with_reducible refine x_gtrL ?_) | (with_reducible refine x_geqL ?_) | (with_reducible refine s_neqL ?_) | (with_reducible refine St.load h ?_) | (with_reducible refine St.loadS h ?_) | (with_reducible refine a_fld0 ?_) | (with_reducible refine St.store h fun W h => ?_) | (with_reducible refine St.storeS h fun W h => ?_) | (with_reducible refine St.alloc h fun b W h => ?_) | (with_reducible refine St.allocS h fun b W h => ?_) | (with_reducible refine a_nil ?_) | (with_reducible refine ss_load ?_) | (with_reducible refine ss_loadS ?_) | (with_reducible refine ss_eqb ?_)))
      refine hn W (St.swap (St.shutE (va', m'') (St.shutA ⟨hm'', fun e => by omega⟩ ?_)))
      rw [show ((i : Int) + 1) = ((i + 1 : Nat) : Int) by push_cast; rfl] at h
      show St w0 G0 (Ky (.pointer (some ⟨bm, 0, none⟩) : Value) (Mpis m'') :: Ky b2 (Ob (.cells [(.pointer (some ⟨bm, 0, none⟩) : Value)].toArray 41 (0, 0))) :: Ky b3 (Ob (.cells [lv].toArray 40 (0, 0))) :: Ky ba (Ob (.cells [va'].toArray 46 (0, 0))) :: Ky bi (Ob (.cells [nV .i64 (i + 1)].toArray 3 (0, 0))) :: Ky va' (Ow 3 1 (i + 1) (((m.take (i + 1)).map Prod.fst).map Enc.enc)) :: Ky ll (Ob (.loop (rec .busy none))) :: I') W
      exact h.to
    (repeat (first | (with_reducible refine ift ?_) | (with_reducible refine iff' ?_) | (with_reducible refine a_lss ?_) | (with_reducible refine a_leq ?_) | (with_reducible refine a_gtr ?_) | (with_reducible refine a_geq ?_) | (with_reducible refine w_eql ?_) | (with_reducible refine w_neq ?_) | (with_reducible refine s_eql ?_) | (with_reducible refine s_neq ?_) | ((with_reducible refine a_add64 ?h0 ?h1 ?_); (case h0 => omega); (case h1 => omega);  skip) | ((with_reducible refine a_sub64 ?h0 ?h1 ?_); (case h0 => omega); (case h1 => omega);  skip) | ((with_reducible refine a_mul64 ?h0 ?h1 ?_); (case h0 => omega); (case h1 => omega);  skip) | (with_reducible refine a_notd ?_) | (with_reducible refine a_not ?_) | (with_reducible refine a_ext0 ?_) | (with_reducible refine a_ext1 ?_) | (with_reducible refine a_ext2 ?_) | (with_reducible refine x_len ?_) | (with_reducible refine x_lens ?_) | (with_reducible refine x_eqb ?_) | (with_reducible refine x_neb ?_) | (with_reducible refine x_nilP ?_) | (with_reducible refine x_nilPn ?_) | (with_reducible refine x_nilF ?_) | (with_reducible refine x_nilFF ?_) | (with_reducible refine w_eqlL ?_) | (with_reducible refine w_neqL ?_) | (with_reducible refine s_eqlL ?_) | (with_reducible refine ifnt ?_) | (with_reducible refine ifnf ?_) | (with_reducible refine x_eqB ?_) | (with_reducible refine x_neB ?_) | (with_reducible refine x_lssL ?_) | (with_reducible refine x_gtrL ?_) | (with_reducible refine x_geqL ?_) | (with_reducible refine s_neqL ?_) | (with_reducible refine St.load h ?_) | (with_reducible refine St.loadS h ?_) | (with_reducible refine a_fld0 ?_) | (with_reducible refine St.store h fun W h => ?_) | (with_reducible refine St.storeS h fun W h => ?_) | (with_reducible refine St.alloc h fun b W h => ?_) | (with_reducible refine St.allocS h fun b W h => ?_) | (with_reducible refine a_nil ?_) | (with_reducible refine ss_load ?_) | (with_reducible refine ss_loadS ?_) | (with_reducible refine ss_eqb ?_)))
    refine x_lenS (h.sl0 hs) ?_
    refine a_lss (ifd (fun hc => ?_) fun hc => ?_)
    · obtain ⟨o, ho⟩ : ∃ o, lc[i]? = some o := ⟨_, List.getElem?_eq_getElem (by omega)⟩
      refine ⟨fun W' => W' = _, rfl, ?_⟩
      replace h := h.drew
      refine s_ld (t := 41) (cs := [(.pointer (some ⟨bm, 0, none⟩) : Value)]) (fun w e => by subst e; exact h.rc) rfl ?_
      refine s_ld (t := 40) (cs := [lv]) (fun w e => by subst e; exact h.rc) rfl ?_
      refine s_ld (t := 3) (cs := [nV .i64 i]) (fun w e => by subst e; exact h.rc) rfl ?_
      refine x_sfld (h.sl0 hs) (fun _ e => by subst e; exact h.sl0 hs) (by omega) (by decide) ((callsC_get ho (by decide)).trans rfl) ?_
      refine deleteis_spec (v := .pointer (some ⟨bm, 0, none⟩)) (k := o.k) h (by omega) fun W h => ?_
      refine ⟨fun W' => W' = _, rfl, ?_⟩
      replace h := h.drew
      refine s_ld (t := 41) (cs := [(.pointer (some ⟨bm, 0, none⟩) : Value)]) (fun w e => by subst e; exact h.rc) rfl ?_
      refine s_ld (t := 40) (cs := [lv]) (fun w e => by subst e; exact h.rc) rfl ?_
      refine s_ld (t := 3) (cs := [nV .i64 i]) (fun w e => by subst e; exact h.rc) rfl ?_
      refine x_sfld (h.sl0 hs) (fun _ e => by subst e; exact h.sl0 hs) (by omega) (by decide) ((callsC_get ho (by decide)).trans rfl) ?_
      have hdl : (delK o.k m').length ≤ m'.length := by
        have := posK_le o.k m'
        unfold delK
        split <;> simp [List.length_take, List.length_drop] <;> omega
      refine putis_spec (v := .pointer (some ⟨bm, 0, none⟩)) (k := o.hi) (x := [120]) h (by omega) fun W h => ?_
      have := putK_len2 o.hi [120] (delK o.k m')
      exact ⟨rfl, putK o.hi [120] (delK o.k m'), by omega, h.to⟩
    · exact ⟨rfl, m', by omega, h.to⟩
  · intro DD W h
    obtain ⟨⟨va, m'⟩, h⟩ := St.openE h.swap
    obtain ⟨_, h⟩ := St.openA h
    rw [List.length_map] at h
    replace h : St w0 G0 (Ky (.pointer (some ⟨bm, 0, none⟩) : Value) (Mpis m') :: Ky b2 (Ob (.cells [(.pointer (some ⟨bm, 0, none⟩) : Value)].toArray 41 (0, 0))) :: Ky b3 (Ob (.cells [lv].toArray 40 (0, 0))) :: Ky ba (Ob (.cells [va].toArray 46 (0, 0))) :: Ky bi (Ob (.cells [nV .i64 m.length].toArray 3 (0, 0))) :: Ky va (Ow 3 1 m.length (((m.take m.length).map Prod.fst).map Enc.enc)) :: Ky DD (Ob (.deferred (some []))) :: _) W := h
    rw [List.take_length] at h
    (repeat (first | (with_reducible refine ift ?_) | (with_reducible refine iff' ?_) | (with_reducible refine a_lss ?_) | (with_reducible refine a_leq ?_) | (with_reducible refine a_gtr ?_) | (with_reducible refine a_geq ?_) | (with_reducible refine w_eql ?_) | (with_reducible refine w_neq ?_) | (with_reducible refine s_eql ?_) | (with_reducible refine s_neq ?_) | ((with_reducible refine a_add64 ?h0 ?h1 ?_); (case h0 => omega); (case h1 => omega);  skip) | ((with_reducible refine a_sub64 ?h0 ?h1 ?_); (case h0 => omega); (case h1 => omega);  skip) | ((with_reducible refine a_mul64 ?h0 ?h1 ?_); (case h0 => omega); (case h1 => omega);  skip) | (with_reducible refine a_notd ?_) | (with_reducible refine a_not ?_) | (with_reducible refine a_ext0 ?_) | (with_reducible refine a_ext1 ?_) | (with_reducible refine a_ext2 ?_) | (with_reducible refine x_len ?_) | (with_reducible refine x_lens ?_) | (with_reducible refine x_eqb ?_) | (with_reducible refine x_neb ?_) | (with_reducible refine x_nilP ?_) | (with_reducible refine x_nilPn ?_) | (with_reducible refine x_nilF ?_) | (with_reducible refine x_nilFF ?_) | (with_reducible refine w_eqlL ?_) | (with_reducible refine w_neqL ?_) | (with_reducible refine s_eqlL ?_) | (with_reducible refine ifnt ?_) | (with_reducible refine ifnf ?_) | (with_reducible refine x_eqB ?_) | (with_reducible refine x_neB ?_) | (with_reducible refine x_lssL ?_) | (with_reducible refine x_gtrL ?_) | (with_reducible refine x_geqL ?_) | (with_reducible refine s_neqL ?_) | (with_reducible refine St.load h ?_) | (with_reducible refine St.loadS h ?_) | (with_reducible refine a_fld0 ?_) | (with_reducible refine St.store h fun W h => ?_) | (with_reducible refine St.storeS h fun W h => ?_) | (with_reducible refine St.alloc h fun b W h => ?_) | (with_reducible refine St.allocS h fun b W h => ?_) | (with_reducible refine a_nil ?_) | (with_reducible refine ss_load ?_) | (with_reducible refine ss_loadS ?_) | (with_reducible refine ss_eqb ?_)))
    refine ⟨h.ob (b := DD), ?_⟩
    have ov : Cel1 va := .of_own (h.ow (v := va))
    replace h := h.putO (b := DD) (o := .deferred (some [])) (.deferred none)
    exact k va m' _ ov h.to
  · intro DD c i W hi h
    exact (St.openA h.swap).1.elim
end
end Go.Proofs.Ytdjgchofnkancaa
