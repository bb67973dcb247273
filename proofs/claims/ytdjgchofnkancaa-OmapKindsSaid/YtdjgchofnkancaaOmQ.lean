/-
  OmapKinds: a map of numbers to slices: the walk.
-/
import Derived.Test.YtdjgchofnkancaaOmKp
import Derived.Test.YtdjgchofnkancaaOmDil
import Derived.Test.YtdjgchofnkancaaOmG
namespace Go.Proofs.Ytdjgchofnkancaa
open Go Go.Ez Go.RowKit
set_option linter.unusedSimpArgs false
set_option linter.unusedVariables false

section
variable {w : World} {R : Value → World → Prop}
/-- the pairs put in so far, and the slices kept -/
def KdI (l : List Int) (ps : List (Int × OneV)) (kp : List (Value × List Value)) : Prop := ∀ X p, ps[X]? = some p → l[X]? = some p.1 ∧ (p.2.v, [nV .i64 X, .int .i64 p.1]) ∈ kp
/-- hbllaw2.OmapKinds -/
theorem kinds_spec {l : List Int} {v : Value} {n : Nat} {a : Int} (hv : Sl w 1 v n (l.map Enc.enc)) (hbig : l.length ≤ 9223372036854775807)
    (h : ∀ w', Below w.heap.size w w' → R (.bool true) w') : CallF Try.prog 6 #[v, .int .i64 a] w R := by
  refine sh6_calls ?_
  unfold sh6
  obtain rfl : n = l.length := by obtain ⟨_, _, _, _, e, _⟩ := hv; simpa using e.symm
  have hR := h
  have h := St.start w
  refine first2_spec fun W m => ?_
  replace h := h.ext m
  (repeat (first | (with_reducible refine ift ?_) | (with_reducible refine iff' ?_) | (with_reducible refine a_lss ?_) | (with_reducible refine a_leq ?_) | (with_reducible refine a_gtr ?_) | (with_reducible refine a_geq ?_) | (with_reducible refine w_eql ?_) | (with_reducible refine w_neq ?_) | (with_reducible refine s_eql ?_) | (with_reducible refine s_neq ?_) | ((with_reducible refine a_add64 ?h0 ?h1 ?_); (case h0 => omega); (case h1 => omega);  skip) | ((with_reducible refine a_sub64 ?h0 ?h1 ?_); (case h0 => omega); (case h1 => omega);  skip) | ((with_reducible refine a_mul64 ?h0 ?h1 ?_); (case h0 => omega); (case h1 => omega);  skip) | (with_reducible refine a_notd ?_) | (with_reducible refine a_not ?_) | (with_reducible refine a_ext0 ?_) | (with_reducible refine a_ext1 ?_) | (with_reducible refine a_ext2 ?_) | (with_reducible refine x_len ?_) | (with_reducible refine x_lens ?_) | (with_reducible refine x_eqb ?_) | (with_reducible refine x_neb ?_) | (with_reducible refine x_nilP ?_) | (with_reducible refine x_nilPn ?_) | (with_reducible refine x_nilF ?_) | (with_reducible refine x_nilFF ?_) | (with_reducible refine w_eqlL ?_) | (with_reducible refine w_neqL ?_) | (with_reducible refine s_eqlL ?_) | (with_reducible refine ifnt ?_) | (with_reducible refine ifnf ?_) | (with_reducible refine x_eqB ?_) | (with_reducible refine x_neB ?_) | (with_reducible refine x_lssL ?_) | (with_reducible refine x_gtrL ?_) | (with_reducible refine x_geqL ?_) | (with_reducible refine s_neqL ?_) | (with_reducible refine St.load h ?_) | (with_reducible refine St.loadS h ?_) | (with_reducible refine a_fld0 ?_) | (with_reducible refine St.store h fun W h => ?_) | (with_reducible refine St.storeS h fun W h => ?_) | (with_reducible refine St.alloc h fun b W h => ?_) | (with_reducible refine St.allocS h fun b W h => ?_) | (with_reducible refine a_nil ?_) | (with_reducible refine ss_load ?_) | (with_reducible refine ss_loadS ?_) | (with_reducible refine ss_eqb ?_)))
  refine newil_spec h fun mv W h => ?_
  obtain ⟨b, rfl, _⟩ := h.ptrM (v := mv)
  have bad : ∀ W {l : List As}, St w G0 l W → RunW Try.prog (bin .neq 66 (.tmp 26) (.const (.pointer none)) (.pointer (some ⟨b, 0, none⟩)) (.pointer none)) W fun x => IfB x (CallF Try.prog 14 #[] W fun x w => R x w) (R (.bool false) W) := by
    intro W l h
    (repeat (first | (with_reducible refine ift ?_) | (with_reducible refine iff' ?_) | (with_reducible refine a_lss ?_) | (with_reducible refine a_leq ?_) | (with_reducible refine a_gtr ?_) | (with_reducible refine a_geq ?_) | (with_reducible refine w_eql ?_) | (with_reducible refine w_neq ?_) | (with_reducible refine s_eql ?_) | (with_reducible refine s_neq ?_) | ((with_reducible refine a_add64 ?h0 ?h1 ?_); (case h0 => omega); (case h1 => omega);  skip) | ((with_reducible refine a_sub64 ?h0 ?h1 ?_); (case h0 => omega); (case h1 => omega);  skip) | ((with_reducible refine a_mul64 ?h0 ?h1 ?_); (case h0 => omega); (case h1 => omega);  skip) | (with_reducible refine a_notd ?_) | (with_reducible refine a_not ?_) | (with_reducible refine a_ext0 ?_) | (with_reducible refine a_ext1 ?_) | (with_reducible refine a_ext2 ?_) | (with_reducible refine x_len ?_) | (with_reducible refine x_lens ?_) | (with_reducible refine x_eqb ?_) | (with_reducible refine x_neb ?_) | (with_reducible refine x_nilP ?_) | (with_reducible refine x_nilPn ?_) | (with_reducible refine x_nilF ?_) | (with_reducible refine x_nilFF ?_) | (with_reducible refine w_eqlL ?_) | (with_reducible refine w_neqL ?_) | (with_reducible refine s_eqlL ?_) | (with_reducible refine ifnt ?_) | (with_reducible refine ifnf ?_) | (with_reducible refine x_eqB ?_) | (with_reducible refine x_neB ?_) | (with_reducible refine x_lssL ?_) | (with_reducible refine x_gtrL ?_) | (with_reducible refine x_geqL ?_) | (with_reducible refine s_neqL ?_) | (with_reducible refine St.load h ?_) | (with_reducible refine St.loadS h ?_) | (with_reducible refine a_fld0 ?_) | (with_reducible refine St.store h fun W h => ?_) | (with_reducible refine St.storeS h fun W h => ?_) | (with_reducible refine St.alloc h fun b W h => ?_) | (with_reducible refine St.allocS h fun b W h => ?_) | (with_reducible refine a_nil ?_) | (with_reducible refine ss_load ?_) | (with_reducible refine ss_loadS ?_) | (with_reducible refine ss_eqb ?_)))
    refine ift ?_
    exact first2_spec fun W m => hR W (h.ext m).low
  (repeat (first | (with_reducible refine ift ?_) | (with_reducible refine iff' ?_) | (with_reducible refine a_lss ?_) | (with_reducible refine a_leq ?_) | (with_reducible refine a_gtr ?_) | (with_reducible refine a_geq ?_) | (with_reducible refine w_eql ?_) | (with_reducible refine w_neq ?_) | (with_reducible refine s_eql ?_) | (with_reducible refine s_neq ?_) | ((with_reducible refine a_add64 ?h0 ?h1 ?_); (case h0 => omega); (case h1 => omega);  skip) | ((with_reducible refine a_sub64 ?h0 ?h1 ?_); (case h0 => omega); (case h1 => omega);  skip) | ((with_reducible refine a_mul64 ?h0 ?h1 ?_); (case h0 => omega); (case h1 => omega);  skip) | (with_reducible refine a_notd ?_) | (with_reducible refine a_not ?_) | (with_reducible refine a_ext0 ?_) | (with_reducible refine a_ext1 ?_) | (with_reducible refine a_ext2 ?_) | (with_reducible refine x_len ?_) | (with_reducible refine x_lens ?_) | (with_reducible refine x_eqb ?_) | (with_reducible refine x_neb ?_) | (with_reducible refine x_nilP ?_) | (with_reducible refine x_nilPn ?_) | (with_reducible refine x_nilF ?_) | (with_reducible refine x_nilFF ?_) | (with_reducible refine w_eqlL ?_) | (with_reducible refine w_neqL ?_) | (with_reducible refine s_eqlL ?_) | (with_reducible refine ifnt ?_) | (with_reducible refine ifnf ?_) | (with_reducible refine x_eqB ?_) | (with_reducible refine x_neB ?_) | (with_reducible refine x_lssL ?_) | (with_reducible refine x_gtrL ?_) | (with_reducible refine x_geqL ?_) | (with_reducible refine s_neqL ?_) | (with_reducible refine St.load h ?_) | (with_reducible refine St.loadS h ?_) | (with_reducible refine a_fld0 ?_) | (with_reducible refine St.store h fun W h => ?_) | (with_reducible refine St.storeS h fun W h => ?_) | (with_reducible refine St.alloc h fun b W h => ?_) | (with_reducible refine St.allocS h fun b W h => ?_) | (with_reducible refine a_nil ?_) | (with_reducible refine ss_load ?_) | (with_reducible refine ss_loadS ?_) | (with_reducible refine ss_eqb ?_)))
  refine iff' ?_
  refine x_lenS hv ?_
  refine a_gtr (ifd (fun hc => bad W h) fun hc => ?_)
  have hl : l.length ≤ 100 := by omega
  clear bad
  replace h := St.kpNil (e := 3) h
  refine lpx (α := Nat) (fun i => [nV .i64 i]) (fun i W => i ≤ l.length ∧ ∃ ps kp, ps.length = i ∧ KdI l ps kp ∧ St w G0 [Ky 0 (Kp 3 kp), Ky (.pointer (some ⟨b, 0, none⟩) : Value) (Mpil (fmap ps))] W) (fun i => l.length - i) 0 (fun _ => rfl) rfl ⟨Nat.zero_le _, [], [], rfl, fun X p hp => by simp at hp, h⟩ ?_
  clear h
  rintro next i W hnext ⟨hi', ps, kp, hps, hkd, h⟩
  refine app1 ?_
  have hml := fmap_len ps
  refine x_lenS hv ?_
  refine a_lss (ifd (fun hc => ?_) fun hc => ?_)
  · obtain ⟨x, hx⟩ : ∃ x, l[i]? = some x := ⟨_, List.getElem?_eq_getElem (by omega)⟩
    have hxv : (l.map (Enc.enc (κ := Int)))[i]? = some (Enc.enc x) := by rw [List.getElem?_map, hx]; rfl
    refine ⟨fun W' => Sl W' 1 v l.length (l.map Enc.enc), h.drew.sl0 hv, ?_⟩
    replace h := h.drew
    refine x_sat (h.sl0 hv) (fun _ e => e) hxv ?_
    refine x_sat (h.sl0 hv) (fun _ e => e) hxv ?_
    refine h.lit (vs := [nV .i64 i, .int .i64 x]) (fun u W o h => ?_) (by decide)
    refine ⟨h.sl0 hv, ?_⟩
    refine putil_spec (v := .pointer (some ⟨b, 0, none⟩)) (k := x) (x := ⟨u, o.one⟩) h (by omega) fun W h => ?_
    (repeat (first | (with_reducible refine ift ?_) | (with_reducible refine iff' ?_) | (with_reducible refine a_lss ?_) | (with_reducible refine a_leq ?_) | (with_reducible refine a_gtr ?_) | (with_reducible refine a_geq ?_) | (with_reducible refine w_eql ?_) | (with_reducible refine w_neq ?_) | (with_reducible refine s_eql ?_) | (with_reducible refine s_neq ?_) | ((with_reducible refine a_add64 ?h0 ?h1 ?_); (case h0 => omega); (case h1 => omega);  skip) | ((with_reducible refine a_sub64 ?h0 ?h1 ?_); (case h0 => omega); (case h1 => omega);  skip) | ((with_reducible refine a_mul64 ?h0 ?h1 ?_); (case h0 => omega); (case h1 => omega);  skip) | (with_reducible refine a_notd ?_) | (with_reducible refine a_not ?_) | (with_reducible refine a_ext0 ?_) | (with_reducible refine a_ext1 ?_) | (with_reducible refine a_ext2 ?_) | (with_reducible refine x_len ?_) | (with_reducible refine x_lens ?_) | (with_reducible refine x_eqb ?_) | (with_reducible refine x_neb ?_) | (with_reducible refine x_nilP ?_) | (with_reducible refine x_nilPn ?_) | (with_reducible refine x_nilF ?_) | (with_reducible refine x_nilFF ?_) | (with_reducible refine w_eqlL ?_) | (with_reducible refine w_neqL ?_) | (with_reducible refine s_eqlL ?_) | (with_reducible refine ifnt ?_) | (with_reducible refine ifnf ?_) | (with_reducible refine x_eqB ?_) | (with_reducible refine x_neB ?_) | (with_reducible refine x_lssL ?_) | (with_reducible refine x_gtrL ?_) | (with_reducible refine x_geqL ?_) | (with_reducible refine s_neqL ?_) | (with_reducible refine St.load h ?_) | (with_reducible refine St.loadS h ?_) | (with_reducible refine a_fld0 ?_) | (with_reducible refine St.store h fun W h => ?_) | (with_reducible refine St.storeS h fun W h => ?_) | (with_reducible refine St.alloc h fun b W h => ?_) | (with_reducible refine St.allocS h fun b W h => ?_) | (with_reducible refine a_nil ?_) | (with_reducible refine ss_load ?_) | (with_reducible refine ss_loadS ?_) | (with_reducible refine ss_eqb ?_)))
    refine ⟨rfl, rfl, rfl, ?_⟩
    rw [show ((i : Int) + 1) = ((i + 1 : Nat) : Int) by push_cast; rfl]
    have h' : St w G0 (Ky u (Ow 3 1 2 [nV .i64 i, .int .i64 x]) :: Ky 0 (Kp 3 kp) :: Ky (.pointer (some ⟨b, 0, none⟩) : Value) (Mpil (putK x ⟨u, o.one⟩ (fmap ps))) :: []) W := h.to
    refine hnext (i + 1) W (by omega) ⟨by omega, ps ++ [(x, ⟨u, o.one⟩)], (u, [nV .i64 i, .int .i64 x]) :: kp, by rw [List.length_append, hps]; rfl, ?_, by rw [fmap_snoc]; exact St.kpAdd rfl h'⟩
    intro X p hp
    rcases Nat.lt_trichotomy X ps.length with hj | hj | hj
    · rw [List.getElem?_append_left hj] at hp
      exact ⟨(hkd X p hp).1, List.mem_cons_of_mem _ (hkd X p hp).2⟩
    · subst hj; rw [List.getElem?_append_right (Nat.le_refl _), Nat.sub_self] at hp; cases hp
      rw [hps]
      exact ⟨hx, List.mem_cons_self⟩
    · rw [List.getElem?_eq_none (by rw [List.length_append, List.length_singleton]; omega)] at hp; cases hp
  have hil : i = l.length := by omega
  clear hnext next hc hi'
  subst hil
  refine copyil_spec (v := .pointer (some ⟨b, 0, none⟩)) h (by omega) fun cv W h => ?_
  obtain ⟨bc, rfl, _⟩ := h.ptrM (v := cv)
  (repeat (first | (with_reducible refine ift ?_) | (with_reducible refine iff' ?_) | (with_reducible refine a_lss ?_) | (with_reducible refine a_leq ?_) | (with_reducible refine a_gtr ?_) | (with_reducible refine a_geq ?_) | (with_reducible refine w_eql ?_) | (with_reducible refine w_neq ?_) | (with_reducible refine s_eql ?_) | (with_reducible refine s_neq ?_) | ((with_reducible refine a_add64 ?h0 ?h1 ?_); (case h0 => omega); (case h1 => omega);  skip) | ((with_reducible refine a_sub64 ?h0 ?h1 ?_); (case h0 => omega); (case h1 => omega);  skip) | ((with_reducible refine a_mul64 ?h0 ?h1 ?_); (case h0 => omega); (case h1 => omega);  skip) | (with_reducible refine a_notd ?_) | (with_reducible refine a_not ?_) | (with_reducible refine a_ext0 ?_) | (with_reducible refine a_ext1 ?_) | (with_reducible refine a_ext2 ?_) | (with_reducible refine x_len ?_) | (with_reducible refine x_lens ?_) | (with_reducible refine x_eqb ?_) | (with_reducible refine x_neb ?_) | (with_reducible refine x_nilP ?_) | (with_reducible refine x_nilPn ?_) | (with_reducible refine x_nilF ?_) | (with_reducible refine x_nilFF ?_) | (with_reducible refine w_eqlL ?_) | (with_reducible refine w_neqL ?_) | (with_reducible refine s_eqlL ?_) | (with_reducible refine ifnt ?_) | (with_reducible refine ifnf ?_) | (with_reducible refine x_eqB ?_) | (with_reducible refine x_neB ?_) | (with_reducible refine x_lssL ?_) | (with_reducible refine x_gtrL ?_) | (with_reducible refine x_geqL ?_) | (with_reducible refine s_neqL ?_) | (with_reducible refine St.load h ?_) | (with_reducible refine St.loadS h ?_) | (with_reducible refine a_fld0 ?_) | (with_reducible refine St.store h fun W h => ?_) | (with_reducible refine St.storeS h fun W h => ?_) | (with_reducible refine St.alloc h fun b W h => ?_) | (with_reducible refine St.allocS h fun b W h => ?_) | (with_reducible refine a_nil ?_) | (with_reducible refine ss_load ?_) | (with_reducible refine ss_loadS ?_) | (with_reducible refine ss_eqb ?_)))
  refine iff' ?_
  refine lenil_spec (v := .pointer (some ⟨bc, 0, none⟩)) h ?_
  have h1 : St w G0 [Ky 0 (Kp 3 kp), Ky (.pointer (some ⟨b, 0, none⟩) : Value) (Mpil (fmap ps)), Ky (.pointer (some ⟨bc, 0, none⟩) : Value) (Mpil (fmap ps))] W := h.to
  clear h
  refine lpx (α := Nat) (fun i => [nV .i64 i]) (fun i W => i ≤ l.length ∧ St w G0 [Ky 0 (Kp 3 kp), Ky (.pointer (some ⟨b, 0, none⟩) : Value) (Mpil (fmap ps)), Ky (.pointer (some ⟨bc, 0, none⟩) : Value) (Mpil (fmap ps))] W) (fun i => l.length - i) 0 (fun _ => rfl) rfl ⟨Nat.zero_le _, h1⟩ ?_
  clear h1
  rintro next i W hnext ⟨hi', h⟩
  refine app1 ?_
  refine x_lenS (h.sl0 hv) ?_
  refine a_lss (ifd (fun hc => ?_) fun hc => ?_)
  · obtain ⟨x, hx⟩ : ∃ x, l[i]? = some x := ⟨_, List.getElem?_eq_getElem (by omega)⟩
    have hxv : (l.map (Enc.enc (κ := Int)))[i]? = some (Enc.enc x) := by rw [List.getElem?_map, hx]; rfl
    obtain ⟨p, hp⟩ : ∃ p, ps[i]? = some p := ⟨_, List.getElem?_eq_getElem (by omega)⟩
    obtain ⟨hpx, _⟩ := hkd i p hp
    have epx : p.1 = x := by rw [hx] at hpx; cases hpx; rfl
    refine x_at (h.sl0 hv) hxv ?_
    refine getil_spec (v := .pointer (some ⟨bc, 0, none⟩)) (k := x) h (by omega) (fun y W hy h _ => ?_) fun W hy h _ => absurd epx ((fmap_get x ps).2 hy i p hp)
    obtain ⟨X, hX, hlast⟩ := (fmap_get x ps).1 y hy
    have hXi : i ≤ X := hlast i p hp epx
    have hXl := (List.getElem?_eq_some_iff.1 hX).1
    obtain ⟨hlX, hkX⟩ := hkd X _ hX
    have hlv : (l.map (Enc.enc (κ := Int)))[X]? = some (Enc.enc x) := by rw [List.getElem?_map, hlX]; rfl
    refine a_ext0 (a_ext1 ?_)
    refine ⟨fun W' => W' = _, rfl, ?_⟩
    replace h := h.drew
    refine a_not (iff' ?_)
    have hsl : Sl W.drew 1 y.v 2 [nV .i64 X, .int .i64 x] := h.kpGet (e := 3) (k := 0) hkX
    refine x_lenSs hsl ?_
    refine s_neq (ifd_neg (by simp) ?_)
    refine x_sat (i := 1) hsl (fun _ e => by subst e; exact hsl) rfl ?_
    refine x_sat (h.sl0 hv) (fun _ e => by subst e; exact h.sl0 hv) hxv ?_
    refine s_neq (ifd_neg (by simp) ?_)
    refine x_sat (i := 0) hsl (fun _ e => by subst e; exact hsl) rfl ?_
    refine a_lss (ifd_neg (by omega) ?_)
    refine x_sat (i := 0) hsl (fun _ e => by subst e; exact hsl) rfl ?_
    refine x_lenSs (h.sl0 hv) ?_
    refine a_geq (ifd_neg (by omega) ?_)
    refine x_sat (i := 0) hsl (fun _ e => by subst e; exact hsl) rfl ?_
    refine x_sat (h.sl0 hv) (fun _ e => by subst e; exact h.sl0 hv) hlv ?_
    refine x_sat (h.sl0 hv) (fun _ e => by subst e; exact h.sl0 hv) hxv ?_
    refine s_neq (ifd_neg (by simp) ?_)
    refine a_add64 (by omega) (by omega) ⟨rfl, rfl, rfl, rfl, rfl, ?_⟩
    rw [show ((i : Int) + 1) = ((i + 1 : Nat) : Int) by push_cast; rfl]
    exact hnext (i + 1) _ (by omega) ⟨by omega, h⟩
  obtain ⟨_, hsr⟩ := h.ptrM (v := .pointer (some ⟨bc, 0, none⟩))
  have hsr := fmap_srt ps
  generalize fmap ps = mm at *
  refine putil_spec (v := .pointer (some ⟨b, 0, none⟩)) (k := a) (x := ⟨.slice none 0 0, rfl⟩) h (by omega) fun W h => ?_
  have hlp := putK_len3 a (⟨.slice none 0 0, rfl⟩ : OneV) mm
  have fin : ∀ (W : World) (ok : Bool), hasK a mm = ok → St w G0 [Ky (.pointer (some ⟨b, 0, none⟩) : Value) (Mpil (putK a ⟨.slice none 0 0, rfl⟩ mm)), Ky 0 (Kp 3 kp), Ky (.pointer (some ⟨bc, 0, none⟩) : Value) (Mpil mm)] W →
      CallF Try.prog 41 #[.pointer (some ⟨b, 0, none⟩), .int .i64 a] W fun t126 w => CallF Try.prog 14 #[] w fun t127 w =>
        IfB t127 (RunA Try.prog (Op.unary .not (.bool ok)) fun t131 => RunW Try.prog (bin .eql 4 (.tmp 129) (.tmp 131) (.bool (!hasK a mm)) t131) w fun t132 => IfB t132 (IfB t126 (CallF Try.prog 39 #[.pointer (some ⟨bc, 0, none⟩)] w fun t139 w => RunW Try.prog (bin .eql 3 (.tmp 139) (.tmp 140) t139 (nV .i64 mm.length)) w fun t141 => R t141 w) (R (.bool false) w)) (R (.bool false) w)) (R (.bool false) w) := by
    intro W ok hok h
    refine deleteil_spec (v := .pointer (some ⟨b, 0, none⟩)) (k := a) h (by omega) fun W h => ?_
    refine first2_spec fun W m => ?_
    replace h := h.ext m
    refine ift ?_
    rw [hok]
    refine a_not ?_
    refine x_eqb ?_
    rw [beq_self_eq_true]
    refine ift ?_
    have e : hasK a (putK a (⟨.slice none 0 0, rfl⟩ : OneV) mm) = true := by
      rw [hasK_get (srt_put hsr), get_put hsr, if_pos rfl]; rfl
    rw [e]
    refine ift ?_
    refine lenil_spec (v := .pointer (some ⟨bc, 0, none⟩)) h ?_
    refine w_eql ?_
    rw [decide_eq_true rfl]
    exact hR W h.low
  refine getil_spec (v := .pointer (some ⟨bc, 0, none⟩)) (k := a) h (by omega) (fun y W hy h _ => ?_) fun W hy h _ => ?_
  · refine a_ext0 (a_ext1 ?_)
    exact fin W true (by rw [hasK_get hsr, hy]; rfl) h.to
  · refine a_ext0 (a_ext1 ?_)
    exact fin W false (by rw [hasK_get hsr, hy]; rfl) h.to
end
end Go.Proofs.Ytdjgchofnkancaa
