/-
  MAPS IN ORDER ([string, []handbill/vers.Version[string]]) left alone: a part of the pairs told: what each function answers.
-/
import Derived.Test.YtffnabbchghokaaOmRp
import Derived.Test.YtffnabbchghokaaOmZzvs
namespace Go.Proofs.Ytffnabbchghokaa
open Go Go.Ez Go.RowKit
set_option linter.unusedSimpArgs false
set_option linter.unusedVariables false

/-- what Range stands on -/
def ItRvs (b bl bh : Nat) (v : Value) (lo hi : Txt) (m : List (Txt × OneV)) (_ : Value) : As := As.all True [Ky b (Ob (.cells [v].toArray 111 (0, 0))), Ky bl (Ob (.cells [(Enc.enc lo : Value)].toArray 9 (0, 0))), Ky bh (Ob (.cells [(Enc.enc hi : Value)].toArray 9 (0, 0)))]
/-- the pairs from lo on, below hi -/
def partMvs (lo hi : Txt) (m : List (Txt × OneV)) : List (Txt × OneV) := m.filter fun p => !OKey.lt p.1 lo && OKey.lt p.1 hi

section
variable {w0 W : World} {l R : List As} {m : List (Txt × OneV)} {v : Value} {RR : Value → World → Prop}

theorem findvs_specZ (hz : Mzvs m W v) {k : Txt} (hl : m.length ≤ 1000000000) (kk : ∀ W', Below W.heap.size W W' → RR (.tuple #[nV .i64 (posK k m), .bool (hasK k m)]) W') : CallF Try.prog 113 #[v, Enc.enc k] W RR := by
  refine sh113_calls ?_
  unfold sh113
  obtain ⟨b, sl, rfl, hs, o, hr, hsl⟩ := hz
  refine a_nil (a_fld0 (w_ldR hr rfl ?_))
  refine searchvs_spec hs hsl hl fun W' hb => ?_
  refine a_ext0 (a_ext1 ?_)
  exact kk W' hb

theorem range1vs_itrZ {b bl bh : Nat} {lo hi : Txt} (hz : Mzvs m w0 v) (hl : m.length ≤ 1000000) : Itr Try.prog w0 G0 (.func (.func 132) #[] #[.pointer (some ⟨b, 0, none⟩), .pointer (some ⟨bl, 0, none⟩), .pointer (some ⟨bh, 0, none⟩)]) (tellvs (partMvs lo hi m)) (ItRvs b bl bh v lo hi m) := by
  refine ⟨132, _, rfl, hent _ (by kernel_rfl), fun yv C D I W RR oy hY h hd hs => ?_⟩
  show CallF Try.prog 132 #[yv, .pointer (some ⟨b, 0, none⟩), .pointer (some ⟨bl, 0, none⟩), .pointer (some ⟨bh, 0, none⟩)] W RR
  refine sh132_calls ?_
  unfold sh132
  replace h := (St.open3 h.swap).2
  have ov : Cel1 v := by obtain ⟨_, _, rfl, _⟩ := id hz; exact ⟨rfl⟩
  refine h.load (h.load ?_)
  refine findvs_specZ (k := lo) (hz.below h.low) (by omega) fun W hb => ?_
  replace h := h.ext hb
  refine a_ext0 (a_ext1 ?_)
  refine h.load (h.load ?_)
  refine findvs_specZ (k := hi) (hz.below h.low) (by omega) fun W hb => ?_
  replace h := h.ext hb
  refine a_ext0 (a_ext1 ?_)
  refine h.load ?_
  obtain ⟨bm, sl, hv, hsr, o, hr, hsl⟩ := hz.below h.low
  subst hv
  refine a_nil (a_fld0 (w_ldR hr rfl ?_))
  refine w_max ?_
  rw [show max ((posK lo m : Nat) : Int) ((posK hi m : Nat) : Int) = ((max (posK lo m) (posK hi m) : Nat) : Int) by omega]
  have hp1 := posK_le lo m
  have hp2 := posK_le hi m
  have hrf := range_filter lo hi hsr
  have hpl : (partMvs lo hi m).length = max (posK lo m) (posK hi m) - posK lo m := by
    show (m.filter _).length = _
    rw [← hrf, List.length_drop, List.length_take, Nat.min_eq_left (by omega)]
  have hpc : pcells (partMvs lo hi m) = ((pcells m).drop (posK lo m * 2)).take ((max (posK lo m) (posK hi m) - posK lo m) * 2) := by
    show pcells (m.filter _) = _
    rw [← hrf, pcells_drop, pcells_take, List.drop_take, ← Nat.sub_mul]
  refine a_slice (SlT.el (P := Try.prog) (t := 157)) hsl (by omega) (by omega) (by omega) fun pv hpv => ?_
  simp only [Int.toNat_natCast] at hpv
  replace hpv : Sl W 2 pv (partMvs lo hi m).length (pcells (partMvs lo hi m)) := by rw [hpl, hpc]; exact hpv
  have hrl : (partMvs lo hi m).length ≤ 1000000 := by omega
  clear hpl hpc hrf
  refine clonevs_spec hpv (pcells_one _) (by omega) fun cl W1 g1 g2 => ?_
  generalize partMvs lo hi m = r at *
  replace h := h.take g2 g1
  refine x_lenS (h.osl (v := cl)) ?_
  have back : ∀ (j : Nat) (E : Nat → As) (W : World), St w0 G0 (Ky b (Ob (.cells [(.pointer (some ⟨bm, 0, none⟩) : Value)].toArray 111 (0, 0))) :: Ky bl (Ob (.cells [(Enc.enc lo : Value)].toArray 9 (0, 0))) :: Ky bh (Ob (.cells [(Enc.enc hi : Value)].toArray 9 (0, 0))) :: Ky j E :: I) W →
      St w0 G0 (Ky j E :: Ky (.func (.func 132) #[] #[.pointer (some ⟨b, 0, none⟩), .pointer (some ⟨bl, 0, none⟩), .pointer (some ⟨bh, 0, none⟩)] : Value) (ItRvs b bl bh (.pointer (some ⟨bm, 0, none⟩)) lo hi m) :: I) W := fun j E W h => (St.shut3 (φ := True) trivial h).swap
  refine lpx (α := Nat) (fun i => [nV .i64 i]) (fun i W => i ≤ r.length ∧ St w0 G0 (Ky i C :: Ky cl (Ow 163 2 r.length (pcells r)) :: Ky b (Ob (.cells [(.pointer (some ⟨bm, 0, none⟩) : Value)].toArray 111 (0, 0))) :: Ky bl (Ob (.cells [(Enc.enc lo : Value)].toArray 9 (0, 0))) :: Ky bh (Ob (.cells [(Enc.enc hi : Value)].toArray 9 (0, 0))) :: I) W)
    (fun i => r.length - i) 0 (fun _ => rfl) rfl ⟨Nat.zero_le _, h.to⟩ ?_
  rintro next i W hnext ⟨hi', h⟩
  refine app1 ?_
  refine a_lss (ifd (fun hc => ?_) fun hc => ?_)
  · have hil : i < r.length := by omega
    obtain ⟨p, hp⟩ : ∃ p, r[i]? = some p := ⟨_, List.getElem?_eq_getElem hil⟩
    refine pcells_sl (h.osl (v := cl)) hp ?_
    refine h.allocS fun pb W h => ?_
    refine h.storeS (cs' := [Enc.enc p.1, Enc.enc p.2]) fun W h => ?_
    (repeat (first | (with_reducible refine ift ?_) | (with_reducible refine iff' ?_) | (with_reducible refine a_lss ?_) | (with_reducible refine a_leq ?_) | (with_reducible refine a_gtr ?_) | (with_reducible refine a_geq ?_) | (with_reducible refine w_eql ?_) | (with_reducible refine w_neq ?_) | (with_reducible refine s_eql ?_) | (with_reducible refine s_neq ?_) | ((with_reducible refine a_add64 ?h0 ?h1 ?_); (case h0 => omega); (case h1 => omega);  skip) | ((with_reducible refine a_sub64 ?h0 ?h1 ?_); (case h0 => omega); (case h1 => omega);  skip) | ((with_reducible refine a_mul64 ?h0 ?h1 ?_); (case h0 => omega); (case h1 => omega);  skip) | (with_reducible refine a_notd ?_) | (with_reducible refine a_not ?_) | (with_reducible refine a_ext0 ?_) | (with_reducible refine a_ext1 ?_) | (with_reducible refine a_ext2 ?_) | (with_reducible refine x_len ?_) | (with_reducible refine x_lens ?_) | (with_reducible refine x_eqb ?_) | (with_reducible refine x_neb ?_) | (with_reducible refine x_nilP ?_) | (with_reducible refine x_nilPn ?_) | (with_reducible refine x_nilF ?_) | (with_reducible refine x_nilFF ?_) | (with_reducible refine w_eqlL ?_) | (with_reducible refine w_neqL ?_) | (with_reducible refine s_eqlL ?_) | (with_reducible refine ifnt ?_) | (with_reducible refine ifnf ?_) | (with_reducible refine x_eqB ?_) | (with_reducible refine x_neB ?_) | (with_reducible refine x_lssL ?_) | (with_reducible refine x_gtrL ?_) | (with_reducible refine x_geqL ?_) | (with_reducible refine s_neqL ?_) | (with_reducible refine St.load h ?_) | (with_reducible refine St.loadS h ?_) | (with_reducible refine a_fld0 ?_) | (with_reducible refine St.store h fun W h => ?_) | (with_reducible refine St.storeS h fun W h => ?_) | (with_reducible refine St.alloc h fun b W h => ?_) | (with_reducible refine St.allocS h fun b W h => ?_) | (with_reducible refine a_nil ?_) | (with_reducible refine ss_load ?_) | (with_reducible refine ss_loadS ?_) | (with_reducible refine ss_eqb ?_)))
    refine hY i [Enc.enc p.1, Enc.enc p.2] (by rw [List.getElem?_map, hp]; rfl) (Ky pb (Ob (.cells [Enc.enc p.1, Enc.enc p.2].toArray 163 (0, 0))) :: Ky cl (Ow 163 2 r.length (pcells r)) :: Ky b (Ob (.cells [(.pointer (some ⟨bm, 0, none⟩) : Value)].toArray 111 (0, 0))) :: Ky bl (Ob (.cells [(Enc.enc lo : Value)].toArray 9 (0, 0))) :: Ky bh (Ob (.cells [(Enc.enc hi : Value)].toArray 9 (0, 0))) :: I) W _ h.to (fun W h => ?_) fun W h => ?_
    · (repeat (first | (with_reducible refine ift ?_) | (with_reducible refine iff' ?_) | (with_reducible refine a_lss ?_) | (with_reducible refine a_leq ?_) | (with_reducible refine a_gtr ?_) | (with_reducible refine a_geq ?_) | (with_reducible refine w_eql ?_) | (with_reducible refine w_neq ?_) | (with_reducible refine s_eql ?_) | (with_reducible refine s_neq ?_) | ((with_reducible refine a_add64 ?h0 ?h1 ?_); (case h0 => omega); (case h1 => omega);  skip) | ((with_reducible refine a_sub64 ?h0 ?h1 ?_); (case h0 => omega); (case h1 => omega);  skip) | ((with_reducible refine a_mul64 ?h0 ?h1 ?_); (case h0 => omega); (case h1 => omega);  skip) | (with_reducible refine a_notd ?_) | (with_reducible refine a_not ?_) | (with_reducible refine a_ext0 ?_) | (with_reducible refine a_ext1 ?_) | (with_reducible refine a_ext2 ?_) | (with_reducible refine x_len ?_) | (with_reducible refine x_lens ?_) | (with_reducible refine x_eqb ?_) | (with_reducible refine x_neb ?_) | (with_reducible refine x_nilP ?_) | (with_reducible refine x_nilPn ?_) | (with_reducible refine x_nilF ?_) | (with_reducible refine x_nilFF ?_) | (with_reducible refine w_eqlL ?_) | (with_reducible refine w_neqL ?_) | (with_reducible refine s_eqlL ?_) | (with_reducible refine ifnt ?_) | (with_reducible refine ifnf ?_) | (with_reducible refine x_eqB ?_) | (with_reducible refine x_neB ?_) | (with_reducible refine x_lssL ?_) | (with_reducible refine x_gtrL ?_) | (with_reducible refine x_geqL ?_) | (with_reducible refine s_neqL ?_) | (with_reducible refine St.load h ?_) | (with_reducible refine St.loadS h ?_) | (with_reducible refine a_fld0 ?_) | (with_reducible refine St.store h fun W h => ?_) | (with_reducible refine St.storeS h fun W h => ?_) | (with_reducible refine St.alloc h fun b W h => ?_) | (with_reducible refine St.allocS h fun b W h => ?_) | (with_reducible refine a_nil ?_) | (with_reducible refine ss_load ?_) | (with_reducible refine ss_loadS ?_) | (with_reducible refine ss_eqb ?_)))
      rw [show ((i : Int) + 1) = ((i + 1 : Nat) : Int) by push_cast; rfl]
      exact ⟨rfl, rfl, rfl, hnext (i + 1) W (by omega) ⟨by omega, h.to⟩⟩
    · (repeat (first | (with_reducible refine ift ?_) | (with_reducible refine iff' ?_) | (with_reducible refine a_lss ?_) | (with_reducible refine a_leq ?_) | (with_reducible refine a_gtr ?_) | (with_reducible refine a_geq ?_) | (with_reducible refine w_eql ?_) | (with_reducible refine w_neq ?_) | (with_reducible refine s_eql ?_) | (with_reducible refine s_neq ?_) | ((with_reducible refine a_add64 ?h0 ?h1 ?_); (case h0 => omega); (case h1 => omega);  skip) | ((with_reducible refine a_sub64 ?h0 ?h1 ?_); (case h0 => omega); (case h1 => omega);  skip) | ((with_reducible refine a_mul64 ?h0 ?h1 ?_); (case h0 => omega); (case h1 => omega);  skip) | (with_reducible refine a_notd ?_) | (with_reducible refine a_not ?_) | (with_reducible refine a_ext0 ?_) | (with_reducible refine a_ext1 ?_) | (with_reducible refine a_ext2 ?_) | (with_reducible refine x_len ?_) | (with_reducible refine x_lens ?_) | (with_reducible refine x_eqb ?_) | (with_reducible refine x_neb ?_) | (with_reducible refine x_nilP ?_) | (with_reducible refine x_nilPn ?_) | (with_reducible refine x_nilF ?_) | (with_reducible refine x_nilFF ?_) | (with_reducible refine w_eqlL ?_) | (with_reducible refine w_neqL ?_) | (with_reducible refine s_eqlL ?_) | (with_reducible refine ifnt ?_) | (with_reducible refine ifnf ?_) | (with_reducible refine x_eqB ?_) | (with_reducible refine x_neB ?_) | (with_reducible refine x_lssL ?_) | (with_reducible refine x_gtrL ?_) | (with_reducible refine x_geqL ?_) | (with_reducible refine s_neqL ?_) | (with_reducible refine St.load h ?_) | (with_reducible refine St.loadS h ?_) | (with_reducible refine a_fld0 ?_) | (with_reducible refine St.store h fun W h => ?_) | (with_reducible refine St.storeS h fun W h => ?_) | (with_reducible refine St.alloc h fun b W h => ?_) | (with_reducible refine St.allocS h fun b W h => ?_) | (with_reducible refine a_nil ?_) | (with_reducible refine ss_load ?_) | (with_reducible refine ss_loadS ?_) | (with_reducible refine ss_eqb ?_)))
      exact hs (i + 1) W (by rw [List.length_map]; omega) (back _ _ W h.to)
  · have hil : i = r.length := by omega
    subst hil
    exact hd W (by rw [List.length_map]; exact back _ _ W h.to)

theorem rangevs_specZ {lo hi : Txt} (hz : Mzvs m w0 v) (h : St w0 G0 l W) (hl : m.length ≤ 1000000) (k : ∀ f b bl bh W', Itr Try.prog w0 G0 f (tellvs (partMvs lo hi m)) (ItRvs b bl bh v lo hi m) → St w0 G0 (Ky f (ItRvs b bl bh v lo hi m) :: l) W' → RR f W') :
    CallF Try.prog 108 #[v, Enc.enc lo, Enc.enc hi] W RR := by
  refine sh108_calls ?_
  unfold sh108
  have ov : Cel1 v := by obtain ⟨_, _, rfl, _⟩ := id hz; exact ⟨rfl⟩
  refine h.boxV fun b W h => ?_
  refine h.boxV fun bl W h => ?_
  refine h.boxV fun bh W h => ?_
  refine v_func ?_
  exact k _ b bl bh W (range1vs_itrZ hz hl) (St.shut3 (φ := True) trivial h.to)
theorem allvs_specZ (hz : Mzvs m w0 v) (h : St w0 G0 l W) (hl : m.length ≤ 1000000) (k : ∀ f b W', Itr Try.prog w0 G0 f (tellvs m) (ItZvs b v) → St w0 G0 (Ky f (ItZvs b v) :: l) W' → RR f W') : CallF Try.prog 79 #[v] W RR := by
  refine sh79_calls ?_
  unfold sh79
  have ov : Cel1 v := by obtain ⟨_, _, rfl, _⟩ := id hz; exact ⟨rfl⟩
  refine h.boxV fun b W h => ?_
  refine v_func ?_
  exact k _ b W (all1vs_itrZ hz hl) (St.shut1 (φ := True) trivial h)
end
end Go.Proofs.Ytffnabbchghokaa
