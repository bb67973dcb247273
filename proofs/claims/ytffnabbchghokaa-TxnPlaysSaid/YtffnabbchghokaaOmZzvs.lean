/-
  MAPS IN ORDER ([string, []handbill/vers.Version[string]]) left alone: a key's value, the pairs told: what each function answers.
-/
import Derived.Test.YtffnabbchghokaaEzFz
import Derived.Test.YtffnabbchghokaaOmIvs
import Derived.Test.YtffnabbchghokaaOmDvs
namespace Go.Proofs.Ytffnabbchghokaa
open Go Go.Ez Go.RowKit
set_option linter.unusedSimpArgs false
set_option linter.unusedVariables false

abbrev Mzvs (m : List (Txt × OneV)) : World → Value → Prop := MpZ 159 m
abbrev Mnvs (m : List (Txt × OneV)) : World → Value → Prop := MpN 159 m
/-- what All stands on, of a map left alone -/
def ItZvs (b : Nat) (v : Value) (_ : Value) : As := As.all True [Ky b (Ob (.cells [v].toArray 111 (0, 0)))]

section
variable {w0 W : World} {l R : List As} {m : List (Txt × OneV)} {v : Value} {RR : Value → World → Prop}

theorem getvs_specZ (hz : Mzvs m W v) {k : Txt} (hl : m.length ≤ 1000000000) (k1 : ∀ x W', getK k m = some x → Below W.heap.size W W' → RR (.tuple #[Enc.enc x, .bool true]) W')
    (k0 : ∀ W', getK k m = none → Below W.heap.size W W' → RR (.tuple #[.slice none 0 0, .bool false]) W') : CallF Try.prog 83 #[v, Enc.enc k] W RR := by
  refine sh83_calls ?_
  unfold sh83
  refine sh113_calls ?_
  unfold sh113
  obtain ⟨b, sl, rfl, hs, o, hr, hsl⟩ := hz
  refine a_nil (a_fld0 (w_ldR hr rfl ?_))
  refine searchvs_spec hs hsl hl fun W' hb => ?_
  replace hr := hr.below hb
  replace hsl := hsl.below hb
  have hg := getK_pos (k := k) hs
  refine a_ext0 (a_ext1 (a_ext0 (a_ext1 ?_)))
  refine a_not ?_
  refine ifnb (fun hh => ?_) fun hh => ?_
  · rw [hh] at hg
    exact k0 W' hg hb
  · obtain ⟨x, hx⟩ := hasK_spec.1 hh
    rw [if_pos hh, hx] at hg
    refine a_nil (a_fld0 (w_ldR hr rfl ?_))
    have hil := (List.getElem?_eq_some_iff.1 hx).1
    refine x_idx hsl hil fun g o hc => ?_
    refine a_fld ?_
    refine x_ld (hc 1 _ (by decide) (pcells_get hx).2) ?_
    exact k1 x W' hg hb

theorem all1vs_itrZ {b : Nat} (hz : Mzvs m w0 v) (hl : m.length ≤ 1000000) : Itr Try.prog w0 G0 (.func (.func 111) #[] #[.pointer (some ⟨b, 0, none⟩)]) (tellvs m) (ItZvs b v) := by
  refine ⟨111, _, rfl, hent _ (by kernel_rfl), fun yv C D I W RR oy hY h hd hs => ?_⟩
  show CallF Try.prog 111 #[yv, .pointer (some ⟨b, 0, none⟩)] W RR
  refine sh111_calls ?_
  unfold sh111
  have hpl := pcells_length m
  replace h := (St.open1 h.swap).2
  obtain ⟨bm, sl, hv, hsr, o, hr, hsl⟩ := hz.below h.low
  refine h.load ?_
  subst hv
  refine a_nil (a_fld0 (w_ldR hr rfl ?_))
  refine clonevs_spec hsl (pcells_one m) (by omega) fun cl W1 g1 g2 => ?_
  replace h := h.take g2 g1
  refine x_lenS (h.osl (v := cl)) ?_
  have back : ∀ (j : Nat) (E : Nat → As) (W : World), St w0 G0 (Ky j E :: Ky cl (Ow 163 2 m.length (pcells m)) :: Ky b (Ob (.cells [(.pointer (some ⟨bm, 0, none⟩) : Value)].toArray 111 (0, 0))) :: I) W →
      St w0 G0 (Ky j E :: Ky (.func (.func 111) #[] #[.pointer (some ⟨b, 0, none⟩)] : Value) (ItZvs b (.pointer (some ⟨bm, 0, none⟩))) :: I) W := fun j E W h =>
    St.swap (St.shut1 (φ := True) trivial h.to)
  refine lpx (α := Nat) (fun i => [nV .i64 i]) (fun i W => i ≤ m.length ∧ St w0 G0 (Ky i C :: Ky cl (Ow 163 2 m.length (pcells m)) :: Ky b (Ob (.cells [(.pointer (some ⟨bm, 0, none⟩) : Value)].toArray 111 (0, 0))) :: I) W)
    (fun i => m.length - i) 0 (fun _ => rfl) rfl ⟨Nat.zero_le _, h.to⟩ ?_
  clear h
  rintro next i W hnext ⟨hi, h⟩
  refine app1 ?_
  refine a_lss (ifd (fun hc => ?_) fun hc => ?_)
  · have hil : i < m.length := by omega
    obtain ⟨p, hp⟩ : ∃ p, m[i]? = some p := ⟨_, List.getElem?_eq_getElem hil⟩
    refine pcells_sl (h.osl (v := cl)) hp ?_
    refine h.allocS fun pb W h => ?_
    refine h.storeS (cs' := [Enc.enc p.1, Enc.enc p.2]) fun W h => ?_
    (repeat (first | (with_reducible refine ift ?_) | (with_reducible refine iff' ?_) | (with_reducible refine a_lss ?_) | (with_reducible refine a_leq ?_) | (with_reducible refine a_gtr ?_) | (with_reducible refine a_geq ?_) | (with_reducible refine w_eql ?_) | (with_reducible refine w_neq ?_) | (with_reducible refine s_eql ?_) | (with_reducible refine s_neq ?_) | ((with_reducible refine a_add64 ?h0 ?h1 ?_); (case h0 => omega); (case h1 => omega);  skip) | ((with_reducible refine a_sub64 ?h0 ?h1 ?_); (case h0 => omega); (case h1 => omega);  skip) | ((with_reducible refine a_mul64 ?h0 ?h1 ?_); (case h0 => omega); (case h1 => omega);  skip) | (with_reducible refine a_notd ?_) | (with_reducible refine a_not ?_) | (with_reducible refine a_ext0 ?_) | (with_reducible refine a_ext1 ?_) | (with_reducible refine a_ext2 ?_) | (with_reducible refine x_len ?_) | (with_reducible refine x_lens ?_) | (with_reducible refine x_eqb ?_) | (with_reducible refine x_neb ?_) | (with_reducible refine x_nilP ?_) | (with_reducible refine x_nilPn ?_) | (with_reducible refine x_nilF ?_) | (with_reducible refine x_nilFF ?_) | (with_reducible refine w_eqlL ?_) | (with_reducible refine w_neqL ?_) | (with_reducible refine s_eqlL ?_) | (with_reducible refine ifnt ?_) | (with_reducible refine ifnf ?_) | (with_reducible refine x_eqB ?_) | (with_reducible refine x_neB ?_) | (with_reducible refine x_lssL ?_) | (with_reducible refine x_gtrL ?_) | (with_reducible refine x_geqL ?_) | (with_reducible refine s_neqL ?_) | (with_reducible refine St.load h ?_) | (with_reducible refine St.loadS h ?_) | (with_reducible refine a_fld0 ?_) | (with_reducible refine St.store h fun W h => ?_) | (with_reducible refine St.storeS h fun W h => ?_) | (with_reducible refine St.alloc h fun b W h => ?_) | (with_reducible refine St.allocS h fun b W h => ?_) | (with_reducible refine a_nil ?_) | (with_reducible refine ss_load ?_) | (with_reducible refine ss_loadS ?_) | (with_reducible refine ss_eqb ?_)))
    refine hY i [Enc.enc p.1, Enc.enc p.2] (by rw [List.getElem?_map, hp]; rfl) (Ky pb (Ob (.cells [Enc.enc p.1, Enc.enc p.2].toArray 163 (0, 0))) :: Ky cl (Ow 163 2 m.length (pcells m)) :: Ky b (Ob (.cells [(.pointer (some ⟨bm, 0, none⟩) : Value)].toArray 111 (0, 0))) :: I) W _ h.to (fun W h => ?_) fun W h => ?_
    · (repeat (first | (with_reducible refine ift ?_) | (with_reducible refine iff' ?_) | (with_reducible refine a_lss ?_) | (with_reducible refine a_leq ?_) | (with_reducible refine a_gtr ?_) | (with_reducible refine a_geq ?_) | (with_reducible refine w_eql ?_) | (with_reducible refine w_neq ?_) | (with_reducible refine s_eql ?_) | (with_reducible refine s_neq ?_) | ((with_reducible refine a_add64 ?h0 ?h1 ?_); (case h0 => omega); (case h1 => omega);  skip) | ((with_reducible refine a_sub64 ?h0 ?h1 ?_); (case h0 => omega); (case h1 => omega);  skip) | ((with_reducible refine a_mul64 ?h0 ?h1 ?_); (case h0 => omega); (case h1 => omega);  skip) | (with_reducible refine a_notd ?_) | (with_reducible refine a_not ?_) | (with_reducible refine a_ext0 ?_) | (with_reducible refine a_ext1 ?_) | (with_reducible refine a_ext2 ?_) | (with_reducible refine x_len ?_) | (with_reducible refine x_lens ?_) | (with_reducible refine x_eqb ?_) | (with_reducible refine x_neb ?_) | (with_reducible refine x_nilP ?_) | (with_reducible refine x_nilPn ?_) | (with_reducible refine x_nilF ?_) | (with_reducible refine x_nilFF ?_) | (with_reducible refine w_eqlL ?_) | (with_reducible refine w_neqL ?_) | (with_reducible refine s_eqlL ?_) | (with_reducible refine ifnt ?_) | (with_reducible refine ifnf ?_) | (with_reducible refine x_eqB ?_) | (with_reducible refine x_neB ?_) | (with_reducible refine x_lssL ?_) | (with_reducible refine x_gtrL ?_) | (with_reducible refine x_geqL ?_) | (with_reducible refine s_neqL ?_) | (with_reducible refine St.load h ?_) | (with_reducible refine St.loadS h ?_) | (with_reducible refine a_fld0 ?_) | (with_reducible refine St.store h fun W h => ?_) | (with_reducible refine St.storeS h fun W h => ?_) | (with_reducible refine St.alloc h fun b W h => ?_) | (with_reducible refine St.allocS h fun b W h => ?_) | (with_reducible refine a_nil ?_) | (with_reducible refine ss_load ?_) | (with_reducible refine ss_loadS ?_) | (with_reducible refine ss_eqb ?_)))
      rw [show ((i : Int) + 1) = ((i + 1 : Nat) : Int) by push_cast; rfl]
      exact ⟨rfl, rfl, rfl, hnext (i + 1) W (by omega) ⟨by omega, h.to⟩⟩
    · (repeat (first | (with_reducible refine ift ?_) | (with_reducible refine iff' ?_) | (with_reducible refine a_lss ?_) | (with_reducible refine a_leq ?_) | (with_reducible refine a_gtr ?_) | (with_reducible refine a_geq ?_) | (with_reducible refine w_eql ?_) | (with_reducible refine w_neq ?_) | (with_reducible refine s_eql ?_) | (with_reducible refine s_neq ?_) | ((with_reducible refine a_add64 ?h0 ?h1 ?_); (case h0 => omega); (case h1 => omega);  skip) | ((with_reducible refine a_sub64 ?h0 ?h1 ?_); (case h0 => omega); (case h1 => omega);  skip) | ((with_reducible refine a_mul64 ?h0 ?h1 ?_); (case h0 => omega); (case h1 => omega);  skip) | (with_reducible refine a_notd ?_) | (with_reducible refine a_not ?_) | (with_reducible refine a_ext0 ?_) | (with_reducible refine a_ext1 ?_) | (with_reducible refine a_ext2 ?_) | (with_reducible refine x_len ?_) | (with_reducible refine x_lens ?_) | (with_reducible refine x_eqb ?_) | (with_reducible refine x_neb ?_) | (with_reducible refine x_nilP ?_) | (with_reducible refine x_nilPn ?_) | (with_reducible refine x_nilF ?_) | (with_reducible refine x_nilFF ?_) | (with_reducible refine w_eqlL ?_) | (with_reducible refine w_neqL ?_) | (with_reducible refine s_eqlL ?_) | (with_reducible refine ifnt ?_) | (with_reducible refine ifnf ?_) | (with_reducible refine x_eqB ?_) | (with_reducible refine x_neB ?_) | (with_reducible refine x_lssL ?_) | (with_reducible refine x_gtrL ?_) | (with_reducible refine x_geqL ?_) | (with_reducible refine s_neqL ?_) | (with_reducible refine St.load h ?_) | (with_reducible refine St.loadS h ?_) | (with_reducible refine a_fld0 ?_) | (with_reducible refine St.store h fun W h => ?_) | (with_reducible refine St.storeS h fun W h => ?_) | (with_reducible refine St.alloc h fun b W h => ?_) | (with_reducible refine St.allocS h fun b W h => ?_) | (with_reducible refine a_nil ?_) | (with_reducible refine ss_load ?_) | (with_reducible refine ss_loadS ?_) | (with_reducible refine ss_eqb ?_)))
      exact hs (i + 1) W (by rw [List.length_map]; omega) (back _ _ W h.to)
  · have hil : i = m.length := by omega
    subst hil
    exact hd W (by rw [List.length_map]; exact back _ _ W h)

end
end Go.Proofs.Ytffnabbchghokaa
