/-
  MAPS IN ORDER ([int, string]): a part of a map's pairs told.
-/
import Derived.Test.YtdjgchofnkancaaOmIis
namespace Go.Ez
open Go
set_option linter.unusedVariables false
theorem filter_none {κ β : Type} [OKey κ] {lo hi k : κ} : ∀ {m : List (κ × β)}, (∀ p ∈ m, OKey.lt k p.1 = true) → OKey.lt k hi = false → m.filter (fun p => !OKey.lt p.1 lo && OKey.lt p.1 hi) = []
  | [], _, _ => rfl
  | p :: m, h, hk => by
    have hp := h p (by simp)
    have : OKey.lt p.1 hi = false := by
      cases hx : OKey.lt p.1 hi with
      | false => rfl
      | true => have := OKey.tr hp hx; rw [hk] at this; cases this
    rw [List.filter_cons_of_neg (by rw [this]; simp)]
    exact filter_none (fun q hq => h q (by simp [hq])) hk
/-- the pairs of keys from lo on, below hi -/
theorem range_filter {κ β : Type} [OKey κ] (lo hi : κ) : ∀ {m : List (κ × β)}, Srt m → (m.take (max (posK lo m) (posK hi m))).drop (posK lo m) = m.filter (fun p => !OKey.lt p.1 lo && OKey.lt p.1 hi)
  | [], _ => by simp
  | p :: m, hs => by
    have hs' := List.pairwise_cons.1 hs
    have ih := range_filter lo hi (m := m) hs'.2
    have nolo : OKey.lt p.1 lo = false → ∀ q ∈ m, OKey.lt q.1 lo = false := fun hp q hq => by
      cases hx : OKey.lt q.1 lo with
      | false => rfl
      | true => have := OKey.tr (hs'.1 q hq) hx; rw [hp] at this; cases this
    cases h1 : OKey.lt p.1 lo <;> cases h2 : OKey.lt p.1 hi <;> simp only [posK, h1, h2, if_true, Bool.false_eq_true, if_false]
    · rw [List.filter_cons_of_neg (by rw [h2]; simp), filter_none (k := p.1) hs'.1 h2]
      simp
    · rw [List.filter_cons_of_pos (by rw [h1, h2]; rfl)]
      have h0 : posK lo m = 0 := by
        cases m with
        | nil => rfl
        | cons q m => unfold posK; rw [nolo h1 q (by simp)]; rfl
      rw [h0] at ih
      simp only [Nat.zero_max, List.drop_zero] at ih ⊢
      rw [List.take_succ_cons, ih]
    · rw [List.filter_cons_of_neg (by rw [h1]; simp), filter_none (k := p.1) hs'.1 h2]
      rw [Nat.max_eq_left (Nat.zero_le _), List.drop_take]
      simp
    · rw [List.filter_cons_of_neg (by rw [h1]; simp), ← ih]
      rw [show max (posK lo m + 1) (posK hi m + 1) = max (posK lo m) (posK hi m) + 1 by omega, List.take_succ_cons, List.drop_succ_cons]
end Go.Ez

namespace Go.Proofs.Ytdjgchofnkancaa
open Go Go.Ez Go.RowKit
set_option linter.unusedSimpArgs false
set_option linter.unusedVariables false

/-- what Range stands on -/
def ItR (b bl bh : Nat) (v : Value) (lo hi : Int) (m : List (Int × Txt)) (_ : Value) : As := As.all True [Ky b (Ob (.cells [v].toArray 41 (0, 0))), Ky bl (Ob (.cells [(.int .i64 lo : Value)].toArray 3 (0, 0))), Ky bh (Ob (.cells [(.int .i64 hi : Value)].toArray 3 (0, 0))), Ky v (Mpis m)]
/-- the pairs from lo on, below hi -/
def partM (lo hi : Int) (m : List (Int × Txt)) : List (Int × Txt) := m.filter fun p => !OKey.lt p.1 lo && OKey.lt p.1 hi

section
variable {w0 W : World} {G : Nat → Prop} {l R : List As} {m : List (Int × Txt)} {v : Value} {RR : Value → World → Prop}

theorem range1_itr {b bl bh : Nat} {lo hi : Int} (hl : m.length ≤ 1000000) : Itr Try.prog w0 G (.func (.func 77) #[] #[.pointer (some ⟨b, 0, none⟩), .pointer (some ⟨bl, 0, none⟩), .pointer (some ⟨bh, 0, none⟩)]) (tellis (partM lo hi m)) (ItR b bl bh v lo hi m) := by
  refine ⟨77, _, rfl, hent _ (by kernel_rfl), fun yv C D I W RR oy hY h hd hs => ?_⟩
  show CallF Try.prog 77 #[yv, .pointer (some ⟨b, 0, none⟩), .pointer (some ⟨bl, 0, none⟩), .pointer (some ⟨bh, 0, none⟩)] W RR
  refine sh77_calls ?_
  unfold sh77
  replace h := (St.open4 h.swap).2
  obtain ⟨bm, hv, _⟩ := h.ptrM (v := v)
  refine h.load (h.load ?_)
  refine findis_spec (v := v) (k := lo) h (by omega) fun W hb => ?_
  replace h := h.ext hb
  refine a_ext0 (a_ext1 ?_)
  refine h.load (h.load ?_)
  refine findis_spec (v := v) (k := hi) h (by omega) fun W hb => ?_
  replace h := h.ext hb
  refine a_ext0 (a_ext1 ?_)
  refine h.load ?_
  subst hv
  obtain ⟨bm', sl, e1, hsr, o, h⟩ := h.openM (v := .pointer (some ⟨bm, 0, none⟩))
  cases e1
  (repeat (first | (with_reducible refine ift ?_) | (with_reducible refine iff' ?_) | (with_reducible refine a_lss ?_) | (with_reducible refine a_leq ?_) | (with_reducible refine a_gtr ?_) | (with_reducible refine a_geq ?_) | (with_reducible refine w_eql ?_) | (with_reducible refine w_neq ?_) | (with_reducible refine s_eql ?_) | (with_reducible refine s_neq ?_) | ((with_reducible refine a_add64 ?h0 ?h1 ?_); (case h0 => omega); (case h1 => omega);  skip) | ((with_reducible refine a_sub64 ?h0 ?h1 ?_); (case h0 => omega); (case h1 => omega);  skip) | ((with_reducible refine a_mul64 ?h0 ?h1 ?_); (case h0 => omega); (case h1 => omega);  skip) | (with_reducible refine a_notd ?_) | (with_reducible refine a_not ?_) | (with_reducible refine a_ext0 ?_) | (with_reducible refine a_ext1 ?_) | (with_reducible refine a_ext2 ?_) | (with_reducible refine x_len ?_) | (with_reducible refine x_lens ?_) | (with_reducible refine x_eqb ?_) | (with_reducible refine x_neb ?_) | (with_reducible refine x_nilP ?_) | (with_reducible refine x_nilPn ?_) | (with_reducible refine x_nilF ?_) | (with_reducible refine x_nilFF ?_) | (with_reducible refine w_eqlL ?_) | (with_reducible refine w_neqL ?_) | (with_reducible refine s_eqlL ?_) | (with_reducible refine ifnt ?_) | (with_reducible refine ifnf ?_) | (with_reducible refine x_eqB ?_) | (with_reducible refine x_neB ?_) | (with_reducible refine x_lssL ?_) | (with_reducible refine x_gtrL ?_) | (with_reducible refine x_geqL ?_) | (with_reducible refine s_neqL ?_) | (with_reducible refine St.load h ?_) | (with_reducible refine St.loadS h ?_) | (with_reducible refine a_fld0 ?_) | (with_reducible refine St.store h fun W h => ?_) | (with_reducible refine St.storeS h fun W h => ?_) | (with_reducible refine St.alloc h fun b W h => ?_) | (with_reducible refine St.allocS h fun b W h => ?_) | (with_reducible refine a_nil ?_) | (with_reducible refine ss_load ?_) | (with_reducible refine ss_loadS ?_) | (with_reducible refine ss_eqb ?_)))
  refine w_max ?_
  rw [show max ((posK lo m : Nat) : Int) ((posK hi m : Nat) : Int) = ((max (posK lo m) (posK hi m) : Nat) : Int) by omega]
  have hp1 := posK_le lo m
  have hp2 := posK_le hi m
  have hrf := range_filter lo hi hsr
  have hpl : (partM lo hi m).length = max (posK lo m) (posK hi m) - posK lo m := by
    show (m.filter _).length = _
    rw [← hrf, List.length_drop, List.length_take, Nat.min_eq_left (by omega)]
  have hpc : pcells (partM lo hi m) = ((pcells m).drop (posK lo m * 2)).take ((max (posK lo m) (posK hi m) - posK lo m) * 2) := by
    show pcells (m.filter _) = _
    rw [← hrf, pcells_drop, pcells_take, List.drop_take, ← Nat.sub_mul]
  refine a_slice (SlT.el (P := Try.prog) (t := 119)) (h.osl (v := sl)) (by omega) (by omega) (by omega) fun pv hpv => ?_
  simp only [Int.toNat_natCast] at hpv
  replace hpv : Sl W 2 pv (partM lo hi m).length (pcells (partM lo hi m)) := by rw [hpl, hpc]; exact hpv
  have hrl : (partM lo hi m).length ≤ 1000000 := by omega
  clear hpl hpc hrf
  refine cloneis_spec hpv (pcells_one _) (by omega) fun cl W1 g1 g2 => ?_
  generalize partM lo hi m = r at *
  replace h := (h.take g2 g1).shutM (b := bm) (sl := sl) hsr rfl rfl
  refine x_lenS (h.osl (v := cl)) ?_
  have back : ∀ (j : Nat) (E : Nat → As) (W : World), St w0 G (Ky b (Ob (.cells [(.pointer (some ⟨bm, 0, none⟩) : Value)].toArray 41 (0, 0))) :: Ky bl (Ob (.cells [(.int .i64 lo : Value)].toArray 3 (0, 0))) :: Ky bh (Ob (.cells [(.int .i64 hi : Value)].toArray 3 (0, 0))) :: Ky (.pointer (some ⟨bm, 0, none⟩) : Value) (Mpis m) :: Ky j E :: I) W →
      St w0 G (Ky j E :: Ky (.func (.func 77) #[] #[.pointer (some ⟨b, 0, none⟩), .pointer (some ⟨bl, 0, none⟩), .pointer (some ⟨bh, 0, none⟩)] : Value) (ItR b bl bh (.pointer (some ⟨bm, 0, none⟩)) lo hi m) :: I) W := fun j E W h => (St.shut4 (φ := True) trivial h).swap
  refine lpx (α := Nat) (fun i => [nV .i64 i]) (fun i W => i ≤ r.length ∧ St w0 G (Ky i C :: Ky cl (Ow 123 2 r.length (pcells r)) :: Ky b (Ob (.cells [(.pointer (some ⟨bm, 0, none⟩) : Value)].toArray 41 (0, 0))) :: Ky bl (Ob (.cells [(.int .i64 lo : Value)].toArray 3 (0, 0))) :: Ky bh (Ob (.cells [(.int .i64 hi : Value)].toArray 3 (0, 0))) :: Ky (.pointer (some ⟨bm, 0, none⟩) : Value) (Mpis m) :: I) W)
    (fun i => r.length - i) 0 (fun _ => rfl) rfl ⟨Nat.zero_le _, h.to⟩ ?_
  rintro next i W hnext ⟨hi', h⟩
  refine app1 ?_
  refine a_lss (ifd (fun hc => ?_) fun hc => ?_)
  · have hil : i < r.length := by omega
    obtain ⟨p, hp⟩ : ∃ p, r[i]? = some p := ⟨_, List.getElem?_eq_getElem hil⟩
    refine pcells_sl (h.osl (v := cl)) hp ?_
    refine h.allocS fun pb W h => ?_
    refine h.storeS (cs' := [Enc.enc p.1, Enc.enc p.2]) fun W h => ?_
    (repeat (first | (with_reducible refine ift ?_) | (with_reducible refine iff' ?_) | (with_reducible refine a_lss ?_) | (with_reducible refine a_leq ?_) | (with_reducible refine a_gtr ?_) | (with_reducible refine a_geq ?_) | (with_reducible refine w_eql ?_) | (with_reducible refine w_neq ?_) | (with_reducible refine s_eql ?_) | (with_reducible refine s_neq ?_) | ((with_reducible refine a_add64 ?h0 ?h1 ?_); (case h0 => omega); (case h1 => omega);  skip) | ((with_reducible refine a_sub64 ?h0 ?h1 ?_); (case h0 => omega); (case h1 => omega);  skip) | ((with_reducible refine a_mul64 ?h0 ?h1 ?_); (case h0 => omega); (case h1 => omega);  skip) | (with_reducible refine a_notd ?_) | (with_reducible refine a_not ?_) | (with_reducible refine a_ext0 ?_) | (with_reducible refine a_ext1 ?_) | (with_reducible refine a_ext2 ?_) | (with_reducible refine x_len ?_) | (with_reducible refine x_lens ?_) | (with_reducible refine x_eqb ?_) | (with_reducible refine x_neb ?_) | (with_reducible refine x_nilP ?_) | (with_reducible refine x_nilPn ?_) | (with_reducible refine x_nilF ?_) | (with_reducible refine x_nilFF ?_) | (with_reducible refine w_eqlL ?_) | (with_reducible refine w_neqL ?_) | (with_reducible refine s_eqlL ?_) | (with_reducible refine ifnt ?_) | (with_reducible refine ifnf ?_) | (with_reducible refine x_eqB ?_) | (with_reducible refine x_neB ?_) | (with_reducible refine x_lssL ?_) | (with_reducible refine x_gtrL ?_) | (with_reducible refine x_geqL ?_) | (with_reducible refine s_neqL ?_) | (with_reducible refine St.load h ?_) | (with_reducible refine St.loadS h ?_) | (with_reducible refine a_fld0 ?_) | (with_reducible refine St.store h fun W h => ?_) | (with_reducible refine St.storeS h fun W h => ?_) | (with_reducible refine St.alloc h fun b W h => ?_) | (with_reducible refine St.allocS h fun b W h => ?_) | (with_reducible refine a_nil ?_) | (with_reducible refine ss_load ?_) | (with_reducible refine ss_loadS ?_) | (with_reducible refine ss_eqb ?_)))
    refine hY i [Enc.enc p.1, Enc.enc p.2] (by rw [List.getElem?_map, hp]; rfl) (Ky pb (Ob (.cells [Enc.enc p.1, Enc.enc p.2].toArray 123 (0, 0))) :: Ky cl (Ow 123 2 r.length (pcells r)) :: Ky b (Ob (.cells [(.pointer (some ⟨bm, 0, none⟩) : Value)].toArray 41 (0, 0))) :: Ky bl (Ob (.cells [(.int .i64 lo : Value)].toArray 3 (0, 0))) :: Ky bh (Ob (.cells [(.int .i64 hi : Value)].toArray 3 (0, 0))) :: Ky (.pointer (some ⟨bm, 0, none⟩) : Value) (Mpis m) :: I) W _ h.to (fun W h => ?_) fun W h => ?_
    · (repeat (first | (with_reducible refine ift ?_) | (with_reducible refine iff' ?_) | (with_reducible refine a_lss ?_) | (with_reducible refine a_leq ?_) | (with_reducible refine a_gtr ?_) | (with_reducible refine a_geq ?_) | (with_reducible refine w_eql ?_) | (with_reducible refine w_neq ?_) | (with_reducible refine s_eql ?_) | (with_reducible refine s_neq ?_) | ((with_reducible refine a_add64 ?h0 ?h1 ?_); (case h0 => omega); (case h1 => omega);  skip) | ((with_reducible refine a_sub64 ?h0 ?h1 ?_); (case h0 => omega); (case h1 => omega);  skip) | ((with_reducible refine a_mul64 ?h0 ?h1 ?_); (case h0 => omega); (case h1 => omega);  skip) | (with_reducible refine a_notd ?_) | (with_reducible refine a_not ?_) | (with_reducible refine a_ext0 ?_) | (with_reducible refine a_ext1 ?_) | (with_reducible refine a_ext2 ?_) | (with_reducible refine x_len ?_) | (with_reducible refine x_lens ?_) | (with_reducible refine x_eqb ?_) | (with_reducible refine x_neb ?_) | (with_reducible refine x_nilP ?_) | (with_reducible refine x_nilPn ?_) | (with_reducible refine x_nilF ?_) | (with_reducible refine x_nilFF ?_) | (with_reducible refine w_eqlL ?_) | (with_reducible refine w_neqL ?_) | (with_reducible refine s_eqlL ?_) | (with_reducible refine ifnt ?_) | (with_reducible refine ifnf ?_) | (with_reducible refine x_eqB ?_) | (with_reducible refine x_neB ?_) | (with_reducible refine x_lssL ?_) | (with_reducible refine x_gtrL ?_) | (with_reducible refine x_geqL ?_) | (with_reducible refine s_neqL ?_) | (with_reducible refine St.load h ?_) | (with_reducible refine St.loadS h ?_) | (with_reducible refine a_fld0 ?_) | (with_reducible refine St.store h fun W h => ?_) | (with_reducible refine St.storeS h fun W h => ?_) | (with_reducible refine St.alloc h fun b W h => ?_) | (with_reducible refine St.allocS h fun b W h => ?_) | (with_reducible refine a_nil ?_) | (with_reducible refine ss_load ?_) | (with_reducible refine ss_loadS ?_) | (with_reducible refine ss_eqb ?_)))
      rw [show ((i : Int) + 1) = ((i + 1 : Nat) : Int) by push_cast; rfl]
      exact ⟨rfl, rfl, rfl, hnext (i + 1) W (by omega) ⟨by omega, h.to⟩⟩
    · (repeat (first | (with_reducible refine ift ?_) | (with_reducible refine iff' ?_) | (with_reducible refine a_lss ?_) | (with_reducible refine a_leq ?_) | (with_reducible refine a_gtr ?_) | (with_reducible refine a_geq ?_) | (with_reducible refine w_eql ?_) | (with_reducible refine w_neq ?_) | (with_reducible refine s_eql ?_) | (with_reducible refine s_neq ?_) | ((with_reducible refine a_add64 ?h0 ?h1 ?_); (case h0 => omega); (case h1 => omega);  skip) | ((with_reducible refine a_sub64 ?h0 ?h1 ?_); (case h0 => omega); (case h1 => omega);  skip) | ((with_reducible refine a_mul64 ?h0 ?h1 ?_); (case h0 => omega); (case h1 => omega);  skip) | (with_reducible refine a_notd ?_) | (with_reducible refine a_not ?_) | (with_reducible refine a_ext0 ?_) | (with_reducible refine a_ext1 ?_) | (with_reducible refine a_ext2 ?_) | (with_reducible refine x_len ?_) | (with_reducible refine x_lens ?_) | (with_reducible refine x_eqb ?_) | (with_reducible refine x_neb ?_) | (with_reducible refine x_nilP ?_) | (with_reducible refine x_nilPn ?_) | (with_reducible refine x_nilF ?_) | (with_reducible refine x_nilFF ?_) | (with_reducible refine w_eqlL ?_) | (with_reducible refine w_neqL ?_) | (with_reducible refine s_eqlL ?_) | (with_reducible refine ifnt ?_) | (with_reducible refine ifnf ?_) | (with_reducible refine x_eqB ?_) | (with_reducible refine x_neB ?_) | (with_reducible refine x_lssL ?_) | (with_reducible refine x_gtrL ?_) | (with_reducible refine x_geqL ?_) | (with_reducible refine s_neqL ?_) | (with_reducible refine St.load h ?_) | (with_reducible refine St.loadS h ?_) | (with_reducible refine a_fld0 ?_) | (with_reducible refine St.store h fun W h => ?_) | (with_reducible refine St.storeS h fun W h => ?_) | (with_reducible refine St.alloc h fun b W h => ?_) | (with_reducible refine St.allocS h fun b W h => ?_) | (with_reducible refine a_nil ?_) | (with_reducible refine ss_load ?_) | (with_reducible refine ss_loadS ?_) | (with_reducible refine ss_eqb ?_)))
      exact hs (i + 1) W (by rw [List.length_map]; omega) (back _ _ W h.to)
  · have hil : i = r.length := by omega
    subst hil
    exact hd W (by rw [List.length_map]; exact back _ _ W h.to)

theorem range_spec {lo hi : Int} [i : Has l v (Mpis m) R] (h : St w0 G l W) (hl : m.length ≤ 1000000) (k : ∀ f b bl bh W', Itr Try.prog w0 G f (tellis (partM lo hi m)) (ItR b bl bh v lo hi m) → St w0 G (Ky f (ItR b bl bh v lo hi m) :: R) W' → RR f W') :
    CallF Try.prog 29 #[v, .int .i64 lo, .int .i64 hi] W RR := by
  refine sh29_calls ?_
  unfold sh29
  obtain ⟨bm, rfl, _⟩ := h.ptrM (v := v)
  refine h.boxV fun b W h => ?_
  refine h.boxV fun bl W h => ?_
  refine h.boxV fun bh W h => ?_
  refine v_func ?_
  exact k _ b bl bh W (range1_itr hl) (St.shut4 (φ := True) trivial h.to)
end
end Go.Proofs.Ytdjgchofnkancaa
