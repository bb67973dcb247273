/-
  DIFFERENCES (of string): the pairs of a map left alone, its values: what each function answers.
-/
import Derived.Test.YtdjgchofnkancaaEzFz
import Derived.Test.YtdjgchofnkancaaDfP
import Derived.Test.YtdjgchofnkancaaOmMss
import Derived.Test.YtdjgchofnkancaaShD
namespace Go.Proofs.Ytdjgchofnkancaa
open Go Go.Ez Go.RowKit
set_option linter.unusedSimpArgs false
set_option linter.unusedVariables false

abbrev Mzss (m : List (Txt × Txt)) : World → Value → Prop := MpZ 175 m
abbrev Mnss (m : List (Txt × Txt)) : World → Value → Prop := MpN 175 m
/-- what All stands on, of a map left alone -/
def ItZss (b : Nat) (v : Value) (_ : Value) : As := As.all True [Ky b (Ob (.cells [v].toArray 85 (0, 0)))]

section
variable {w0 W : World} {l R : List As} {m : List (Txt × Txt)} {v : Value} {RR : Value → World → Prop}

theorem getss_specZ (hz : Mzss m W v) {k : Txt} (hl : m.length ≤ 1000000000) (k1 : ∀ x W', getK k m = some x → Below W.heap.size W W' → RR (.tuple #[Enc.enc x, .bool true]) W')
    (k0 : ∀ W', getK k m = none → Below W.heap.size W W' → RR (.tuple #[.string ⟨#[]⟩, .bool false]) W') : CallF Try.prog 122 #[v, Enc.enc k] W RR := by
  refine sh122_calls ?_
  unfold sh122
  refine sh117_calls ?_
  unfold sh117
  obtain ⟨b, sl, rfl, hs, o, hr, hsl⟩ := hz
  refine a_nil (a_fld0 (w_ldR hr rfl ?_))
  refine searchss_spec hs hsl hl fun W' hb => ?_
  replace hr := hr.below hb
  replace hsl := hsl.below hb
  have hg := getK_pos (k := k) hs
  refine a_ext0 (a_ext1 (a_ext0 (a_ext1 ?_)))
  refine a_not ?_
  refine ifnb (fun hh => ?_) fun hh => ?_
  · rw [hh] at hg
    exact k0 W' hg hb
  · obtain ⟨x, hx⟩ := hasK_spec.1 hh
    rw [if_pos hh, hx] at hg
    refine a_nil (a_fld0 (w_ldR hr rfl ?_))
    have hil := (List.getElem?_eq_some_iff.1 hx).1
    refine x_idx hsl hil fun g o hc => ?_
    refine a_fld ?_
    refine x_ld (hc 1 _ (by decide) (pcells_get hx).2) ?_
    exact k1 x W' hg hb

theorem all1ss_itrZ {b : Nat} (hz : Mzss m w0 v) (hl : m.length ≤ 1000000) : Itr Try.prog w0 G0 (.func (.func 123) #[] #[.pointer (some ⟨b, 0, none⟩)]) (tellss m) (ItZss b v) := by
  refine ⟨123, _, rfl, hentD _ (by kernel_rfl), fun yv C D I W RR oy hY h hd hs => ?_⟩
  show CallF Try.prog 123 #[yv, .pointer (some ⟨b, 0, none⟩)] W RR
  refine sh123_calls ?_
  unfold sh123
  have hpl := pcells_length m
  replace h := (St.open1 h.swap).2
  obtain ⟨bm, sl, hv, hsr, o, hr, hsl⟩ := hz.below h.low
  refine h.load ?_
  subst hv
  refine a_nil (a_fld0 (w_ldR hr rfl ?_))
  refine cloness_spec hsl (pcells_one m) (by omega) fun cl W1 g1 g2 => ?_
  replace h := h.take g2 g1
  refine x_lenS (h.osl (v := cl)) ?_
  have back : ∀ (j : Nat) (E : Nat → As) (W : World), St w0 G0 (Ky j E :: Ky cl (Ow 177 2 m.length (pcells m)) :: Ky b (Ob (.cells [(.pointer (some ⟨bm, 0, none⟩) : Value)].toArray 85 (0, 0))) :: I) W →
      St w0 G0 (Ky j E :: Ky (.func (.func 123) #[] #[.pointer (some ⟨b, 0, none⟩)] : Value) (ItZss b (.pointer (some ⟨bm, 0, none⟩))) :: I) W := fun j E W h =>
    St.swap (St.shut1 (φ := True) trivial h.to)
  refine lpx (α := Nat) (fun i => [nV .i64 i]) (fun i W => i ≤ m.length ∧ St w0 G0 (Ky i C :: Ky cl (Ow 177 2 m.length (pcells m)) :: Ky b (Ob (.cells [(.pointer (some ⟨bm, 0, none⟩) : Value)].toArray 85 (0, 0))) :: I) W)
    (fun i => m.length - i) 0 (fun _ => rfl) rfl ⟨Nat.zero_le _, h.to⟩ ?_
  clear h
  rintro next i W hnext ⟨hi, h⟩
  refine app1 ?_
  refine a_lss (ifd (fun hc => ?_) fun hc => ?_)
  · have hil : i < m.length := by omega
    obtain ⟨p, hp⟩ : ∃ p, m[i]? = some p := ⟨_, List.getElem?_eq_getElem hil⟩
    refine pcells_sl (h.osl (v := cl)) hp ?_
    refine h.allocS fun pb W h => ?_
    refine h.storeS (cs' := [Enc.enc p.1, Enc.enc p.2]) fun W h => ?_
    (repeat (first | (with_reducible refine ift ?_) | (with_reducible refine iff' ?_) | (with_reducible refine a_lss ?_) | (with_reducible refine a_leq ?_) | (with_reducible refine a_gtr ?_) | (with_reducible refine a_geq ?_) | (with_reducible refine w_eql ?_) | (with_reducible refine w_neq ?_) | (with_reducible refine s_eql ?_) | (with_reducible refine s_neq ?_) | ((with_reducible refine a_add64 ?h0 ?h1 ?_); (case h0 => omega); (case h1 => omega);  skip) | ((with_reducible refine a_sub64 ?h0 ?h1 ?_); (case h0 => omega); (case h1 => omega);  skip) | ((with_reducible refine a_mul64 ?h0 ?h1 ?_); (case h0 => omega); (case h1 => omega);  skip) | (with_reducible refine a_notd ?_) | (with_reducible refine a_not ?_) | (with_reducible refine a_ext0 ?_) | (with_reducible refine a_ext1 ?_) | (with_reducible refine a_ext2 ?_) | (with_reducible refine x_len ?_) | (with_reducible refine x_lens ?_) | (with_reducible refine x_eqb ?_) | (with_reducible refine x_neb ?_) | (with_reducible refine x_nilP ?_) | (with_reducible refine x_nilPn ?_) | (with_reducible refine x_nilF ?_) | (with_reducible refine x_nilFF ?_) | (with_reducible refine w_eqlL ?_) | (with_reducible refine w_neqL ?_) | (with_reducible refine s_eqlL ?_) | (with_reducible refine ifnt ?_) | (with_reducible refine ifnf ?_) | (with_reducible refine x_eqB ?_) | (with_reducible refine x_neB ?_) | (with_reducible refine x_lssL ?_) | (with_reducible refine x_gtrL ?_) | (with_reducible refine x_geqL ?_) | (with_reducible refine s_neqL ?_) | (with_reducible refine St.load h ?_) | (with_reducible refine St.loadS h ?_) | (with_reducible refine a_fld0 ?_) | (with_reducible refine St.store h fun W h => ?_) | (with_reducible refine St.storeS h fun W h => ?_) | (with_reducible refine St.alloc h fun b W h => ?_) | (with_reducible refine St.allocS h fun b W h => ?_) | (with_reducible refine a_nil ?_) | (with_reducible refine ss_load ?_) | (with_reducible refine ss_loadS ?_) | (with_reducible refine ss_eqb ?_)))
    refine hY i [Enc.enc p.1, Enc.enc p.2] (by rw [List.getElem?_map, hp]; rfl) (Ky pb (Ob (.cells [Enc.enc p.1, Enc.enc p.2].toArray 177 (0, 0))) :: Ky cl (Ow 177 2 m.length (pcells m)) :: Ky b (Ob (.cells [(.pointer (some ⟨bm, 0, none⟩) : Value)].toArray 85 (0, 0))) :: I) W _ h.to (fun W h => ?_) fun W h => ?_
    · (repeat (first | (with_reducible refine ift ?_) | (with_reducible refine iff' ?_) | (with_reducible refine a_lss ?_) | (with_reducible refine a_leq ?_) | (with_reducible refine a_gtr ?_) | (with_reducible refine a_geq ?_) | (with_reducible refine w_eql ?_) | (with_reducible refine w_neq ?_) | (with_reducible refine s_eql ?_) | (with_reducible refine s_neq ?_) | ((with_reducible refine a_add64 ?h0 ?h1 ?_); (case h0 => omega); (case h1 => omega);  skip) | ((with_reducible refine a_sub64 ?h0 ?h1 ?_); (case h0 => omega); (case h1 => omega);  skip) | ((with_reducible refine a_mul64 ?h0 ?h1 ?_); (case h0 => omega); (case h1 => omega);  skip) | (with_reducible refine a_notd ?_) | (with_reducible refine a_not ?_) | (with_reducible refine a_ext0 ?_) | (with_reducible refine a_ext1 ?_) | (with_reducible refine a_ext2 ?_) | (with_reducible refine x_len ?_) | (with_reducible refine x_lens ?_) | (with_reducible refine x_eqb ?_) | (with_reducible refine x_neb ?_) | (with_reducible refine x_nilP ?_) | (with_reducible refine x_nilPn ?_) | (with_reducible refine x_nilF ?_) | (with_reducible refine x_nilFF ?_) | (with_reducible refine w_eqlL ?_) | (with_reducible refine w_neqL ?_) | (with_reducible refine s_eqlL ?_) | (with_reducible refine ifnt ?_) | (with_reducible refine ifnf ?_) | (with_reducible refine x_eqB ?_) | (with_reducible refine x_neB ?_) | (with_reducible refine x_lssL ?_) | (with_reducible refine x_gtrL ?_) | (with_reducible refine x_geqL ?_) | (with_reducible refine s_neqL ?_) | (with_reducible refine St.load h ?_) | (with_reducible refine St.loadS h ?_) | (with_reducible refine a_fld0 ?_) | (with_reducible refine St.store h fun W h => ?_) | (with_reducible refine St.storeS h fun W h => ?_) | (with_reducible refine St.alloc h fun b W h => ?_) | (with_reducible refine St.allocS h fun b W h => ?_) | (with_reducible refine a_nil ?_) | (with_reducible refine ss_load ?_) | (with_reducible refine ss_loadS ?_) | (with_reducible refine ss_eqb ?_)))
      rw [show ((i : Int) + 1) = ((i + 1 : Nat) : Int) by push_cast; rfl]
      exact ⟨rfl, rfl, rfl, hnext (i + 1) W (by omega) ⟨by omega, h.to⟩⟩
    · (repeat (first | (with_reducible refine ift ?_) | (with_reducible refine iff' ?_) | (with_reducible refine a_lss ?_) | (with_reducible refine a_leq ?_) | (with_reducible refine a_gtr ?_) | (with_reducible refine a_geq ?_) | (with_reducible refine w_eql ?_) | (with_reducible refine w_neq ?_) | (with_reducible refine s_eql ?_) | (with_reducible refine s_neq ?_) | ((with_reducible refine a_add64 ?h0 ?h1 ?_); (case h0 => omega); (case h1 => omega);  skip) | ((with_reducible refine a_sub64 ?h0 ?h1 ?_); (case h0 => omega); (case h1 => omega);  skip) | ((with_reducible refine a_mul64 ?h0 ?h1 ?_); (case h0 => omega); (case h1 => omega);  skip) | (with_reducible refine a_notd ?_) | (with_reducible refine a_not ?_) | (with_reducible refine a_ext0 ?_) | (with_reducible refine a_ext1 ?_) | (with_reducible refine a_ext2 ?_) | (with_reducible refine x_len ?_) | (with_reducible refine x_lens ?_) | (with_reducible refine x_eqb ?_) | (with_reducible refine x_neb ?_) | (with_reducible refine x_nilP ?_) | (with_reducible refine x_nilPn ?_) | (with_reducible refine x_nilF ?_) | (with_reducible refine x_nilFF ?_) | (with_reducible refine w_eqlL ?_) | (with_reducible refine w_neqL ?_) | (with_reducible refine s_eqlL ?_) | (with_reducible refine ifnt ?_) | (with_reducible refine ifnf ?_) | (with_reducible refine x_eqB ?_) | (with_reducible refine x_neB ?_) | (with_reducible refine x_lssL ?_) | (with_reducible refine x_gtrL ?_) | (with_reducible refine x_geqL ?_) | (with_reducible refine s_neqL ?_) | (with_reducible refine St.load h ?_) | (with_reducible refine St.loadS h ?_) | (with_reducible refine a_fld0 ?_) | (with_reducible refine St.store h fun W h => ?_) | (with_reducible refine St.storeS h fun W h => ?_) | (with_reducible refine St.alloc h fun b W h => ?_) | (with_reducible refine St.allocS h fun b W h => ?_) | (with_reducible refine a_nil ?_) | (with_reducible refine ss_load ?_) | (with_reducible refine ss_loadS ?_) | (with_reducible refine ss_eqb ?_)))
      exact hs (i + 1) W (by rw [List.length_map]; omega) (back _ _ W h.to)
  · have hil : i = m.length := by omega
    subst hil
    exact hd W (by rw [List.length_map]; exact back _ _ W h)

/-- diff.all -/
theorem dallss_spec (hz : Mnss m w0 v) (h : St w0 G0 l W) (hl : m.length ≤ 1000000) (k : ∀ f A W', Srcss w0 G0 f m A → St w0 G0 (Ky f A :: l) W' → RR f W') :
    CallF Try.prog 91 #[v] W RR := by
  refine sh91_calls ?_
  unfold sh91
  rcases hz with ⟨rfl, rfl⟩ | hz
  · (repeat (first | (with_reducible refine ift ?_) | (with_reducible refine iff' ?_) | (with_reducible refine a_lss ?_) | (with_reducible refine a_leq ?_) | (with_reducible refine a_gtr ?_) | (with_reducible refine a_geq ?_) | (with_reducible refine w_eql ?_) | (with_reducible refine w_neq ?_) | (with_reducible refine s_eql ?_) | (with_reducible refine s_neq ?_) | ((with_reducible refine a_add64 ?h0 ?h1 ?_); (case h0 => omega); (case h1 => omega);  skip) | ((with_reducible refine a_sub64 ?h0 ?h1 ?_); (case h0 => omega); (case h1 => omega);  skip) | ((with_reducible refine a_mul64 ?h0 ?h1 ?_); (case h0 => omega); (case h1 => omega);  skip) | (with_reducible refine a_notd ?_) | (with_reducible refine a_not ?_) | (with_reducible refine a_ext0 ?_) | (with_reducible refine a_ext1 ?_) | (with_reducible refine a_ext2 ?_) | (with_reducible refine x_len ?_) | (with_reducible refine x_lens ?_) | (with_reducible refine x_eqb ?_) | (with_reducible refine x_neb ?_) | (with_reducible refine x_nilP ?_) | (with_reducible refine x_nilPn ?_) | (with_reducible refine x_nilF ?_) | (with_reducible refine x_nilFF ?_) | (with_reducible refine w_eqlL ?_) | (with_reducible refine w_neqL ?_) | (with_reducible refine s_eqlL ?_) | (with_reducible refine ifnt ?_) | (with_reducible refine ifnf ?_) | (with_reducible refine x_eqB ?_) | (with_reducible refine x_neB ?_) | (with_reducible refine x_lssL ?_) | (with_reducible refine x_gtrL ?_) | (with_reducible refine x_geqL ?_) | (with_reducible refine s_neqL ?_) | (with_reducible refine St.load h ?_) | (with_reducible refine St.loadS h ?_) | (with_reducible refine a_fld0 ?_) | (with_reducible refine St.store h fun W h => ?_) | (with_reducible refine St.storeS h fun W h => ?_) | (with_reducible refine St.alloc h fun b W h => ?_) | (with_reducible refine St.allocS h fun b W h => ?_) | (with_reducible refine a_nil ?_) | (with_reducible refine ss_load ?_) | (with_reducible refine ss_loadS ?_) | (with_reducible refine ss_eqb ?_)))
    refine ift ?_
    refine k _ (fun _ => As.all True []) W (.inr ⟨121, #[], rfl, hentD _ (by kernel_rfl), fun yv C D I W RR oy hY h hd hs => ?_⟩) (St.shutA (φ := True) (L := []) trivial h)
    show CallF Try.prog 121 #[yv] W RR
    refine sh121_calls ?_
    unfold sh121
    exact hd W h
  · obtain ⟨b, sl, rfl, hrest⟩ := id hz
    (repeat (first | (with_reducible refine ift ?_) | (with_reducible refine iff' ?_) | (with_reducible refine a_lss ?_) | (with_reducible refine a_leq ?_) | (with_reducible refine a_gtr ?_) | (with_reducible refine a_geq ?_) | (with_reducible refine w_eql ?_) | (with_reducible refine w_neq ?_) | (with_reducible refine s_eql ?_) | (with_reducible refine s_neq ?_) | ((with_reducible refine a_add64 ?h0 ?h1 ?_); (case h0 => omega); (case h1 => omega);  skip) | ((with_reducible refine a_sub64 ?h0 ?h1 ?_); (case h0 => omega); (case h1 => omega);  skip) | ((with_reducible refine a_mul64 ?h0 ?h1 ?_); (case h0 => omega); (case h1 => omega);  skip) | (with_reducible refine a_notd ?_) | (with_reducible refine a_not ?_) | (with_reducible refine a_ext0 ?_) | (with_reducible refine a_ext1 ?_) | (with_reducible refine a_ext2 ?_) | (with_reducible refine x_len ?_) | (with_reducible refine x_lens ?_) | (with_reducible refine x_eqb ?_) | (with_reducible refine x_neb ?_) | (with_reducible refine x_nilP ?_) | (with_reducible refine x_nilPn ?_) | (with_reducible refine x_nilF ?_) | (with_reducible refine x_nilFF ?_) | (with_reducible refine w_eqlL ?_) | (with_reducible refine w_neqL ?_) | (with_reducible refine s_eqlL ?_) | (with_reducible refine ifnt ?_) | (with_reducible refine ifnf ?_) | (with_reducible refine x_eqB ?_) | (with_reducible refine x_neB ?_) | (with_reducible refine x_lssL ?_) | (with_reducible refine x_gtrL ?_) | (with_reducible refine x_geqL ?_) | (with_reducible refine s_neqL ?_) | (with_reducible refine St.load h ?_) | (with_reducible refine St.loadS h ?_) | (with_reducible refine a_fld0 ?_) | (with_reducible refine St.store h fun W h => ?_) | (with_reducible refine St.storeS h fun W h => ?_) | (with_reducible refine St.alloc h fun b W h => ?_) | (with_reducible refine St.allocS h fun b W h => ?_) | (with_reducible refine a_nil ?_) | (with_reducible refine ss_load ?_) | (with_reducible refine ss_loadS ?_) | (with_reducible refine ss_eqb ?_)))
    refine iff' ?_
    refine sh93_calls ?_
    unfold sh93
    refine h.boxV fun bb W h => ?_
    refine v_func ?_
    exact k _ _ W (.inr (all1ss_itrZ hz hl)) (St.shut1 (φ := True) trivial h)
/-- diff.get -/
theorem dgetss_spec (hz : Mnss m W v) {k : Txt} (hl : m.length ≤ 1000000) (kk : ∀ W', Below W.heap.size W W' → RR (.tuple #[Enc.enc ((getK k m).getD default), .bool (getK k m).isSome]) W') :
    CallF Try.prog 92 #[v, Enc.enc k] W RR := by
  refine sh92_calls ?_
  unfold sh92
  rcases hz with ⟨rfl, rfl⟩ | hz
  · (repeat (first | (with_reducible refine ift ?_) | (with_reducible refine iff' ?_) | (with_reducible refine a_lss ?_) | (with_reducible refine a_leq ?_) | (with_reducible refine a_gtr ?_) | (with_reducible refine a_geq ?_) | (with_reducible refine w_eql ?_) | (with_reducible refine w_neq ?_) | (with_reducible refine s_eql ?_) | (with_reducible refine s_neq ?_) | ((with_reducible refine a_add64 ?h0 ?h1 ?_); (case h0 => omega); (case h1 => omega);  skip) | ((with_reducible refine a_sub64 ?h0 ?h1 ?_); (case h0 => omega); (case h1 => omega);  skip) | ((with_reducible refine a_mul64 ?h0 ?h1 ?_); (case h0 => omega); (case h1 => omega);  skip) | (with_reducible refine a_notd ?_) | (with_reducible refine a_not ?_) | (with_reducible refine a_ext0 ?_) | (with_reducible refine a_ext1 ?_) | (with_reducible refine a_ext2 ?_) | (with_reducible refine x_len ?_) | (with_reducible refine x_lens ?_) | (with_reducible refine x_eqb ?_) | (with_reducible refine x_neb ?_) | (with_reducible refine x_nilP ?_) | (with_reducible refine x_nilPn ?_) | (with_reducible refine x_nilF ?_) | (with_reducible refine x_nilFF ?_) | (with_reducible refine w_eqlL ?_) | (with_reducible refine w_neqL ?_) | (with_reducible refine s_eqlL ?_) | (with_reducible refine ifnt ?_) | (with_reducible refine ifnf ?_) | (with_reducible refine x_eqB ?_) | (with_reducible refine x_neB ?_) | (with_reducible refine x_lssL ?_) | (with_reducible refine x_gtrL ?_) | (with_reducible refine x_geqL ?_) | (with_reducible refine s_neqL ?_) | (with_reducible refine St.load h ?_) | (with_reducible refine St.loadS h ?_) | (with_reducible refine a_fld0 ?_) | (with_reducible refine St.store h fun W h => ?_) | (with_reducible refine St.storeS h fun W h => ?_) | (with_reducible refine St.alloc h fun b W h => ?_) | (with_reducible refine St.allocS h fun b W h => ?_) | (with_reducible refine a_nil ?_) | (with_reducible refine ss_load ?_) | (with_reducible refine ss_loadS ?_) | (with_reducible refine ss_eqb ?_)))
    refine ift ?_
    exact kk W (Below.refl _ _)
  · obtain ⟨b, sl, rfl, hrest⟩ := id hz
    (repeat (first | (with_reducible refine ift ?_) | (with_reducible refine iff' ?_) | (with_reducible refine a_lss ?_) | (with_reducible refine a_leq ?_) | (with_reducible refine a_gtr ?_) | (with_reducible refine a_geq ?_) | (with_reducible refine w_eql ?_) | (with_reducible refine w_neq ?_) | (with_reducible refine s_eql ?_) | (with_reducible refine s_neq ?_) | ((with_reducible refine a_add64 ?h0 ?h1 ?_); (case h0 => omega); (case h1 => omega);  skip) | ((with_reducible refine a_sub64 ?h0 ?h1 ?_); (case h0 => omega); (case h1 => omega);  skip) | ((with_reducible refine a_mul64 ?h0 ?h1 ?_); (case h0 => omega); (case h1 => omega);  skip) | (with_reducible refine a_notd ?_) | (with_reducible refine a_not ?_) | (with_reducible refine a_ext0 ?_) | (with_reducible refine a_ext1 ?_) | (with_reducible refine a_ext2 ?_) | (with_reducible refine x_len ?_) | (with_reducible refine x_lens ?_) | (with_reducible refine x_eqb ?_) | (with_reducible refine x_neb ?_) | (with_reducible refine x_nilP ?_) | (with_reducible refine x_nilPn ?_) | (with_reducible refine x_nilF ?_) | (with_reducible refine x_nilFF ?_) | (with_reducible refine w_eqlL ?_) | (with_reducible refine w_neqL ?_) | (with_reducible refine s_eqlL ?_) | (with_reducible refine ifnt ?_) | (with_reducible refine ifnf ?_) | (with_reducible refine x_eqB ?_) | (with_reducible refine x_neB ?_) | (with_reducible refine x_lssL ?_) | (with_reducible refine x_gtrL ?_) | (with_reducible refine x_geqL ?_) | (with_reducible refine s_neqL ?_) | (with_reducible refine St.load h ?_) | (with_reducible refine St.loadS h ?_) | (with_reducible refine a_fld0 ?_) | (with_reducible refine St.store h fun W h => ?_) | (with_reducible refine St.storeS h fun W h => ?_) | (with_reducible refine St.alloc h fun b W h => ?_) | (with_reducible refine St.allocS h fun b W h => ?_) | (with_reducible refine a_nil ?_) | (with_reducible refine ss_load ?_) | (with_reducible refine ss_loadS ?_) | (with_reducible refine ss_eqb ?_)))
    refine iff' ?_
    refine getss_specZ hz (by omega) (fun x W' hx hb => ?_) fun W' hx hb => ?_
    · refine a_ext0 (a_ext1 ?_)
      have := kk W' hb
      rw [hx] at this
      exact this
    · refine a_ext0 (a_ext1 ?_)
      have := kk W' hb
      rw [hx] at this
      exact this
end

/-- changes as they are told -/
abbrev tellCss (ds : List (Txt × Txt × Bool)) : List (List Value) := ds.map fun d => [.agg [Enc.enc d.1, Enc.enc d.2.1, .bool d.2.2].toArray]
/-- what Of stands on -/
def ItOss (b1 b2 : Nat) (v1 v2 : Value) (_ : Value) : As := As.all True [Ky b1 (Ob (.cells [v1].toArray 85 (0, 0))), Ky b2 (Ob (.cells [v2].toArray 85 (0, 0)))]

section
variable {w0 W : World} {l R : List As} {a b : List (Txt × Txt)} {va vb : Value} {RR : Value → World → Prop}

theorem of1ss_itr {b1 b2 : Nat} (ha : Mnss a w0 va) (hb : Mnss b w0 vb) (hla : a.length ≤ 1000) (hlb : b.length ≤ 1000) :
    Itr Try.prog w0 G0 (.func (.func 89) #[] #[.pointer (some ⟨b1, 0, none⟩), .pointer (some ⟨b2, 0, none⟩)]) (tellCss (dff a b)) (ItOss b1 b2 va vb) := by
  refine ⟨89, _, rfl, hentD _ (by kernel_rfl), fun yv C D I W RR oy hY h hd hs => ?_⟩
  show CallF Try.prog 89 #[yv, .pointer (some ⟨b1, 0, none⟩), .pointer (some ⟨b2, 0, none⟩)] W RR
  refine sh89_calls ?_
  unfold sh89
  replace h := (St.open2 h.swap).2
  refine h.boxV fun by_ W h => ?_
  refine ⟨fun W' => Rec W' b1 85 [va] ∧ Rec W' b2 85 [vb], ⟨h.drew.rc, h.drew.rc⟩, ?_⟩
  replace h := h.drew
  refine s_ld (t := 85) (cs := [va]) (fun w hw => hw.1) rfl ?_
  refine s_ld (t := 85) (cs := [vb]) (fun w hw => hw.2) rfl ?_
  refine dallss_spec ha h (by omega) fun f1 A1 W hI1 h => ⟨⟨h.rc, h.rc⟩, ?_⟩
  refine dallss_spec hb h (by omega) fun f2 A2 W hI2 h => ?_
  refine mergess_spec (f1 := f1) (f2 := f2) hI1 hI2 h hla hlb fun f3 b3 b4 W hI h => ?_
  generalize hmm : mrg a b = mm at *
  have hlen : ∀ x ∈ tellss mm, x.length = 2 := by
    intro x hx
    obtain ⟨p, _, rfl⟩ := List.mem_map.1 hx
    rfl
  have hdf : dff a b = mm.filterMap fun p => ch1 a b p.1 := by rw [← hmm]; rfl
  have back : ∀ (j : Nat) (E : Nat → As) (dd : Nat) (o : Obj) (W : World), St w0 G0 (Ky dd (Ob o) :: Ky by_ (Ob (.cells [yv].toArray 143 (0, 0))) :: Ky b1 (Ob (.cells [va].toArray 85 (0, 0))) :: Ky b2 (Ob (.cells [vb].toArray 85 (0, 0))) :: Ky j E :: Ky f3 (ItMss b3 b4 f1 f2 A1 A2) :: I) W →
      St w0 G0 (Ky j E :: Ky (.func (.func 89) #[] #[.pointer (some ⟨b1, 0, none⟩), .pointer (some ⟨b2, 0, none⟩)] : Value) (ItOss b1 b2 va vb) :: I) W := fun j E dd o W h =>
    St.swap (St.shut2 (φ := True) trivial h.to)
  refine rngI (fun i => As.all True [Ky by_ (Ob (.cells [yv].toArray 143 (0, 0))), Ky b1 (Ob (.cells [va].toArray 85 (0, 0))), Ky b2 (Ob (.cells [vb].toArray 85 (0, 0))), Ky ((mm.take i).filterMap fun p => ch1 a b p.1).length C])
    (fun c i => As.ex fun j : Nat => As.all (c = .ret ∧ j ≤ (dff a b).length) [Ky by_ (Ob (.cells [yv].toArray 143 (0, 0))), Ky b1 (Ob (.cells [va].toArray 85 (0, 0))), Ky b2 (Ob (.cells [vb].toArray 85 (0, 0))), Ky j D]) hI hlen (l := I) ?_ ?_ ?_ ?_
  · have h' : St w0 G0 (Ky by_ (Ob (.cells [yv].toArray 143 (0, 0))) :: Ky b1 (Ob (.cells [va].toArray 85 (0, 0))) :: Ky b2 (Ob (.cells [vb].toArray 85 (0, 0))) :: Ky 0 C :: Ky f3 (ItMss b3 b4 f1 f2 A1 A2) :: I) W := h.to
    exact St.shut4 trivial h'
  · intro i x hxi ll rec I' W kn ks h hn hk
    obtain ⟨p, hp, rfl⟩ : ∃ p, mm[i]? = some p ∧ x = [Enc.enc p.1, Enc.enc p.2] := by
      rw [List.getElem?_map] at hxi
      cases hp : mm[i]? with
      | none => rw [hp] at hxi; cases hxi
      | some p => rw [hp] at hxi; cases hxi; exact ⟨p, rfl, rfl⟩
    obtain ⟨g1, g0⟩ := fmap_at (q := fun p : Txt × Txt => ch1 a b p.1) hp
    have gle := fmap_le (q := fun p : Txt × Txt => ch1 a b p.1) mm (i + 1)
    refine app2 ?_
    refine ⟨h.ob (b := ll), ?_⟩
    replace h := h.putO (b := ll) (o := .loop (rec .ready none)) (.loop (rec .busy none))
    replace h := (St.open4 h.swap).2
    refine app4 ?_
    refine jni (fun vs W => vs = [] ∧ St w0 G0 (Ky by_ (Ob (.cells [yv].toArray 143 (0, 0))) :: Ky b1 (Ob (.cells [va].toArray 85 (0, 0))) :: Ky b2 (Ob (.cells [vb].toArray 85 (0, 0))) :: Ky ((mm.take (i + 1)).filterMap fun p => ch1 a b p.1).length C :: Ky ll (Ob (.loop (rec .busy none))) :: I') W) ?_ ?_
    · rintro vs W _ ⟨rfl, h⟩
      exact hn W (St.swap (St.shut4 trivial h.to))
    refine h.load ?_
    refine dgetss_spec (ha.below h.low) (by omega) fun W hw => ?_
    replace h := h.ext hw
    refine a_ext0 (a_ext1 ?_)
    refine h.load ?_
    refine dgetss_spec (hb.below h.low) (by omega) fun W hw => ?_
    replace h := h.ext hw
    refine a_ext0 (a_ext1 ?_)
    have same : ∀ W, St w0 G0 (Ky by_ (Ob (.cells [yv].toArray 143 (0, 0))) :: Ky b1 (Ob (.cells [va].toArray 85 (0, 0))) :: Ky b2 (Ob (.cells [vb].toArray 85 (0, 0))) :: Ky ((mm.take i).filterMap fun p => ch1 a b p.1).length C :: Ky ll (Ob (.loop (rec .busy none))) :: I') W → chg (getK p.1 a) (getK p.1 b) = none →
        St w0 G0 (Ky by_ (Ob (.cells [yv].toArray 143 (0, 0))) :: Ky b1 (Ob (.cells [va].toArray 85 (0, 0))) :: Ky b2 (Ob (.cells [vb].toArray 85 (0, 0))) :: Ky ((mm.take (i + 1)).filterMap fun p => ch1 a b p.1).length C :: Ky ll (Ob (.loop (rec .busy none))) :: I') W := by
      intro W h hc
      rw [g0 (by simp [ch1, hc])]
      exact h
    have turned : ∀ W, St w0 G0 (Ky by_ (Ob (.cells [yv].toArray 143 (0, 0))) :: Ky b1 (Ob (.cells [va].toArray 85 (0, 0))) :: Ky b2 (Ob (.cells [vb].toArray 85 (0, 0))) :: Ky ((mm.take i).filterMap fun p => ch1 a b p.1).length C :: Ky ll (Ob (.loop (rec .busy none))) :: I') W → chg (getK p.1 a) (getK p.1 b) = some ((getK p.1 b).getD default, !(getK p.1 b).isSome) →
        RunW Try.prog (Instr.loadAt 143 (.pointer (some ⟨by_, 0, none⟩))) W fun t36 => RunA Try.prog (Op.unary .not (.bool (getK p.1 b).isSome)) fun t40 => RunV Try.prog (Instr.build 105 #[(0, Enc.enc p.1), (1, Enc.enc ((getK p.1 b).getD default)), (2, t40)]) W fun t41 w => CallV Try.prog t36 #[t41] w fun t42 w => RunA Try.prog (Op.unary .not t42) fun t43 => IfB t43 (ks .ret w) ((fun (vs : List Value) (W : World) => vs = [] ∧ St w0 G0 (Ky by_ (Ob (.cells [yv].toArray 143 (0, 0))) :: Ky b1 (Ob (.cells [va].toArray 85 (0, 0))) :: Ky b2 (Ob (.cells [vb].toArray 85 (0, 0))) :: Ky ((mm.take (i + 1)).filterMap fun p => ch1 a b p.1).length C :: Ky ll (Ob (.loop (rec .busy none))) :: I') W) [] w) := by
      intro W h hc
      have hq : ch1 a b p.1 = some (p.1, (getK p.1 b).getD default, !(getK p.1 b).isSome) := by simp [ch1, hc]
      obtain ⟨g1, g2⟩ := g1 _ hq
      refine h.load ?_
      refine a_not ?_
      refine x_bld (cells := #[Enc.enc p.1, Enc.enc ((getK p.1 b).getD default), .bool (!(getK p.1 b).isSome)]) rfl ?_
      rw [hdf] at hY
      refine hY _ [.agg [Enc.enc p.1, Enc.enc ((getK p.1 b).getD default), .bool (!(getK p.1 b).isSome)].toArray] (by rw [List.getElem?_map, g1]; rfl) (Ky by_ (Ob (.cells [yv].toArray 143 (0, 0))) :: Ky b1 (Ob (.cells [va].toArray 85 (0, 0))) :: Ky b2 (Ob (.cells [vb].toArray 85 (0, 0))) :: Ky ll (Ob (.loop (rec .busy none))) :: I') _ _ h.to (fun W h => ?_) fun W h => ?_
      · refine a_not (iff' ?_)
        rw [g2]
        exact ⟨rfl, h.to⟩
      · refine a_not (ift ?_)
        refine hk .ret W (St.swap (St.shutE (((mm.take i).filterMap fun p => ch1 a b p.1).length + 1) (St.shut4 ⟨rfl, ?_⟩ h.to)))
        rw [hdf, ← g2]
        exact gle
    refine jni (fun vs W => vs = [.pointer (some ⟨by_, 0, none⟩), Enc.enc p.1, Enc.enc ((getK p.1 b).getD default), .bool (getK p.1 b).isSome] ∧ chg (getK p.1 a) (getK p.1 b) = some ((getK p.1 b).getD default, !(getK p.1 b).isSome) ∧ St w0 G0 (Ky by_ (Ob (.cells [yv].toArray 143 (0, 0))) :: Ky b1 (Ob (.cells [va].toArray 85 (0, 0))) :: Ky b2 (Ob (.cells [vb].toArray 85 (0, 0))) :: Ky ((mm.take i).filterMap fun p => ch1 a b p.1).length C :: Ky ll (Ob (.loop (rec .busy none))) :: I') W) ?_ ?_
    · rintro vs W _ ⟨rfl, hc, h⟩
      refine app4 ?_
      exact turned W h hc
    refine x_eqb ?_
    have h0 : St w0 G0 (Ky by_ (Ob (.cells [yv].toArray 143 (0, 0))) :: Ky b1 (Ob (.cells [va].toArray 85 (0, 0))) :: Ky b2 (Ob (.cells [vb].toArray 85 (0, 0))) :: Ky ((mm.take i).filterMap fun p => ch1 a b p.1).length C :: Ky ll (Ob (.loop (rec .busy none))) :: I') W := h.to
    cases hbe : ((getK p.1 a).isSome == (getK p.1 b).isSome)
    · refine iff' ⟨rfl, ?_, h0⟩
      unfold chg
      rw [if_neg]
      rintro ⟨h1, _⟩
      rw [h1, beq_self_eq_true] at hbe; cases hbe
    · refine ift ?_
      have e1 := eq_of_beq hbe
      have eqv : ∀ (x y : Txt) {X Y : Operand} {p q : Prop} {W : World}, (x = y → p) → (x ≠ y → q) → RunW Try.prog (bin .eql 9 X Y (Enc.enc x) (Enc.enc y)) W fun z => IfB z p q := by
        intro x y X Y p q W hp hq
        first
        | exact w_eqlL (ifd hp hq)
        | exact w_eql (ifd hp hq)
      refine eqv _ _ (fun e2 => ⟨rfl, same W h0 ?_⟩) fun e2 => ⟨rfl, ?_, h0⟩
      · unfold chg; rw [if_pos ⟨e1, e2⟩]
      · unfold chg; rw [if_neg fun h => e2 h.2]
  · intro DD W h
    replace h := (St.open4 h.swap).2
    refine ⟨h.ob (b := DD), hd _ ?_⟩
    replace h := h.putO (b := DD) (o := .deferred (some [])) (.deferred none)
    rw [List.length_map, hdf]
    rw [List.length_map, List.take_length] at h
    exact back _ _ DD (.deferred none) _ h.to
  · intro DD c i W hi h
    obtain ⟨j, h⟩ := St.openE h.swap
    obtain ⟨⟨hc, hj⟩, h'⟩ := St.open4 h
    subst hc
    clear h
    have h := h'
    refine ⟨h.ob (b := DD), hs j _ (by rw [List.length_map]; exact hj) ?_⟩
    replace h := h.putO (b := DD) (o := .deferred (some [])) (.deferred none)
    exact back _ _ DD (.deferred none) _ h.to

/-- diff.Of -/
theorem ofss_spec (ha : Mnss a w0 va) (hb : Mnss b w0 vb) (h : St w0 G0 l W) (hla : a.length ≤ 1000) (hlb : b.length ≤ 1000) (k : ∀ f b1 b2 W', Itr Try.prog w0 G0 f (tellCss (dff a b)) (ItOss b1 b2 va vb) → St w0 G0 (Ky f (ItOss b1 b2 va vb) :: l) W' → RR f W') :
    CallF Try.prog 54 #[va, vb] W RR := by
  refine sh54_calls ?_
  unfold sh54
  have o1 := ha.one
  have o2 := hb.one
  refine h.boxV fun b1 W h => ?_
  refine h.boxV fun b2 W h => ?_
  refine v_func ?_
  exact k _ b1 b2 W (of1ss_itr ha hb hla hlb) (St.shut2 (φ := True) trivial h.to)

/-- diff.Count -/
theorem countss_spec (ha : Mnss a w0 va) (hb : Mnss b w0 vb) (h : St w0 G0 l W) (hla : a.length ≤ 1000) (hlb : b.length ≤ 1000) (k : ∀ W', St w0 G0 l W' → RR (nV .i64 (dff a b).length) W') :
    CallF Try.prog 59 #[va, vb] W RR := by
  refine sh59_calls ?_
  unfold sh59
  refine h.alloc fun bc W h => ?_
  (repeat (first | (with_reducible refine ift ?_) | (with_reducible refine iff' ?_) | (with_reducible refine a_lss ?_) | (with_reducible refine a_leq ?_) | (with_reducible refine a_gtr ?_) | (with_reducible refine a_geq ?_) | (with_reducible refine w_eql ?_) | (with_reducible refine w_neq ?_) | (with_reducible refine s_eql ?_) | (with_reducible refine s_neq ?_) | ((with_reducible refine a_add64 ?h0 ?h1 ?_); (case h0 => omega); (case h1 => omega);  skip) | ((with_reducible refine a_sub64 ?h0 ?h1 ?_); (case h0 => omega); (case h1 => omega);  skip) | ((with_reducible refine a_mul64 ?h0 ?h1 ?_); (case h0 => omega); (case h1 => omega);  skip) | (with_reducible refine a_notd ?_) | (with_reducible refine a_not ?_) | (with_reducible refine a_ext0 ?_) | (with_reducible refine a_ext1 ?_) | (with_reducible refine a_ext2 ?_) | (with_reducible refine x_len ?_) | (with_reducible refine x_lens ?_) | (with_reducible refine x_eqb ?_) | (with_reducible refine x_neb ?_) | (with_reducible refine x_nilP ?_) | (with_reducible refine x_nilPn ?_) | (with_reducible refine x_nilF ?_) | (with_reducible refine x_nilFF ?_) | (with_reducible refine w_eqlL ?_) | (with_reducible refine w_neqL ?_) | (with_reducible refine s_eqlL ?_) | (with_reducible refine ifnt ?_) | (with_reducible refine ifnf ?_) | (with_reducible refine x_eqB ?_) | (with_reducible refine x_neB ?_) | (with_reducible refine x_lssL ?_) | (with_reducible refine x_gtrL ?_) | (with_reducible refine x_geqL ?_) | (with_reducible refine s_neqL ?_) | (with_reducible refine St.load h ?_) | (with_reducible refine St.loadS h ?_) | (with_reducible refine a_fld0 ?_) | (with_reducible refine St.store h fun W h => ?_) | (with_reducible refine St.storeS h fun W h => ?_) | (with_reducible refine St.alloc h fun b W h => ?_) | (with_reducible refine St.allocS h fun b W h => ?_) | (with_reducible refine a_nil ?_) | (with_reducible refine ss_load ?_) | (with_reducible refine ss_loadS ?_) | (with_reducible refine ss_eqb ?_)))
  refine ofss_spec ha hb h hla hlb fun f b1 b2 W hI h => ?_
  have hdl := dff_le a b
  have hlen : ∀ x ∈ tellCss (dff a b), x.length = 1 := by
    intro x hx
    obtain ⟨p, _, rfl⟩ := List.mem_map.1 hx
    rfl
  refine rngI (C := fun i => Ky bc (Ob (.cells [nV .i64 i].toArray 3 (0, 0)))) (fun c i => As.all False []) hI hlen (l := l) ?_ ?_ ?_ ?_
  · have h' : St w0 G0 (Ky bc (Ob (.cells [nV .i64 0].toArray 3 (0, 0))) :: Ky f (ItOss b1 b2 va vb) :: l) W := h.to
    exact h'
  · intro i x hxi ll rec I' W kn kst h hn hk
    have hil := (List.getElem?_eq_some_iff.1 hxi).1
    rw [List.length_map] at hil
    have hxl := hlen x (List.mem_of_getElem? hxi)
    obtain ⟨x0, rfl⟩ : ∃ a, x = [a] := by
      match x, hxl with
      | [a], _ => exact ⟨a, rfl⟩
    refine app1 ?_
    refine ⟨h.ob (b := ll), ?_⟩
    replace h := h.putO (b := ll) (o := .loop (rec .ready none)) (.loop (rec .busy none))
    replace h : St w0 G0 (Ky bc (Ob (.cells [nV .i64 i].toArray 3 (0, 0))) :: Ky ll (Ob (.loop (rec .busy none))) :: I') _ := h.swap
    refine app1 ?_
    (repeat (first | (with_reducible refine ift ?_) | (with_reducible refine iff' ?_) | (with_reducible refine a_lss ?_) | (with_reducible refine a_leq ?_) | (with_reducible refine a_gtr ?_) | (with_reducible refine a_geq ?_) | (with_reducible refine w_eql ?_) | (with_reducible refine w_neq ?_) | (with_reducible refine s_eql ?_) | (with_reducible refine s_neq ?_) | ((with_reducible refine a_add64 ?h0 ?h1 ?_); (case h0 => omega); (case h1 => omega);  skip) | ((with_reducible refine a_sub64 ?h0 ?h1 ?_); (case h0 => omega); (case h1 => omega);  skip) | ((with_reducible refine a_mul64 ?h0 ?h1 ?_); (case h0 => omega); (case h1 => omega);  skip) | (with_reducible refine a_notd ?_) | (with_reducible refine a_not ?_) | (with_reducible refine a_ext0 ?_) | (with_reducible refine a_ext1 ?_) | (with_reducible refine a_ext2 ?_) | (with_reducible refine x_len ?_) | (with_reducible refine x_lens ?_) | (with_reducible refine x_eqb ?_) | (with_reducible refine x_neb ?_) | (with_reducible refine x_nilP ?_) | (with_reducible refine x_nilPn ?_) | (with_reducible refine x_nilF ?_) | (with_reducible refine x_nilFF ?_) | (with_reducible refine w_eqlL ?_) | (with_reducible refine w_neqL ?_) | (with_reducible refine s_eqlL ?_) | (with_reducible refine ifnt ?_) | (with_reducible refine ifnf ?_) | (with_reducible refine x_eqB ?_) | (with_reducible refine x_neB ?_) | (with_reducible refine x_lssL ?_) | (with_reducible refine x_gtrL ?_) | (with_reducible refine x_geqL ?_) | (with_reducible refine s_neqL ?_) | (with_reducible refine St.load h ?_) | (with_reducible refine St.loadS h ?_) | (with_reducible refine a_fld0 ?_) | (with_reducible refine St.store h fun W h => ?_) | (with_reducible refine St.storeS h fun W h => ?_) | (with_reducible refine St.alloc h fun b W h => ?_) | (with_reducible refine St.allocS h fun b W h => ?_) | (with_reducible refine a_nil ?_) | (with_reducible refine ss_load ?_) | (with_reducible refine ss_loadS ?_) | (with_reducible refine ss_eqb ?_)))
    rw [show ((i : Int) + 1) = ((i + 1 : Nat) : Int) by push_cast; rfl] at h
    exact hn W (St.swap h)
  · intro DD W h
    rw [List.length_map] at h
    replace h : St w0 G0 (Ky bc (Ob (.cells [nV .i64 (dff a b).length].toArray 3 (0, 0))) :: Ky DD (Ob (.deferred (some []))) :: Ky f (ItOss b1 b2 va vb) :: l) W := h.swap
    (repeat (first | (with_reducible refine ift ?_) | (with_reducible refine iff' ?_) | (with_reducible refine a_lss ?_) | (with_reducible refine a_leq ?_) | (with_reducible refine a_gtr ?_) | (with_reducible refine a_geq ?_) | (with_reducible refine w_eql ?_) | (with_reducible refine w_neq ?_) | (with_reducible refine s_eql ?_) | (with_reducible refine s_neq ?_) | ((with_reducible refine a_add64 ?h0 ?h1 ?_); (case h0 => omega); (case h1 => omega);  skip) | ((with_reducible refine a_sub64 ?h0 ?h1 ?_); (case h0 => omega); (case h1 => omega);  skip) | ((with_reducible refine a_mul64 ?h0 ?h1 ?_); (case h0 => omega); (case h1 => omega);  skip) | (with_reducible refine a_notd ?_) | (with_reducible refine a_not ?_) | (with_reducible refine a_ext0 ?_) | (with_reducible refine a_ext1 ?_) | (with_reducible refine a_ext2 ?_) | (with_reducible refine x_len ?_) | (with_reducible refine x_lens ?_) | (with_reducible refine x_eqb ?_) | (with_reducible refine x_neb ?_) | (with_reducible refine x_nilP ?_) | (with_reducible refine x_nilPn ?_) | (with_reducible refine x_nilF ?_) | (with_reducible refine x_nilFF ?_) | (with_reducible refine w_eqlL ?_) | (with_reducible refine w_neqL ?_) | (with_reducible refine s_eqlL ?_) | (with_reducible refine ifnt ?_) | (with_reducible refine ifnf ?_) | (with_reducible refine x_eqB ?_) | (with_reducible refine x_neB ?_) | (with_reducible refine x_lssL ?_) | (with_reducible refine x_gtrL ?_) | (with_reducible refine x_geqL ?_) | (with_reducible refine s_neqL ?_) | (with_reducible refine St.load h ?_) | (with_reducible refine St.loadS h ?_) | (with_reducible refine a_fld0 ?_) | (with_reducible refine St.store h fun W h => ?_) | (with_reducible refine St.storeS h fun W h => ?_) | (with_reducible refine St.alloc h fun b W h => ?_) | (with_reducible refine St.allocS h fun b W h => ?_) | (with_reducible refine a_nil ?_) | (with_reducible refine ss_load ?_) | (with_reducible refine ss_loadS ?_) | (with_reducible refine ss_eqb ?_)))
    refine ⟨h.ob (b := DD), ?_⟩
    replace h := h.putO (b := DD) (o := .deferred (some [])) (.deferred none)
    exact k _ h.to
  · intro DD c i W hi h
    exact (St.openA h.swap).1.elim
end
end Go.Proofs.Ytdjgchofnkancaa
