/-
  VERSIONS: the document's store pruned; chains held against one another: what each function answers.
-/
import Derived.Test.YtffnabbchghokaaVerZ
namespace Go.Proofs.Ytffnabbchghokaa
open Go Go.Ez Go.RowKit
set_option linter.unusedSimpArgs false
set_option linter.unusedVariables false

section
variable {w0 W W' : World} {G : Nat → Prop} {l R R1 : List As} {rs : Rsvs} {low : Int} {v : Value} {RR : Value → World → Prop} {kp : List (Value × List (Ver Txt))} {key : Txt}
theorem prunedC_drop_len {c : List (Ver Txt)} {low : Int} {d : Nat} (h : prunedC c low = c.drop d) (hd : d ≤ c.length) : c.length - (prunedC c low).length = d := by
  rw [h, List.length_drop]; omega

/-- Prune -/
theorem xprune_spec {n : Nat} {low' : Int} [i : Has l PoolK.c (PlX kp) R1] [j : Has R1 v (Xs rs low) R] (h : St w0 G l W) (hk : InX kp rs) (hb : Bd n (rwvs rs)) (hn : n ≤ 500000) (hg : Gd (rwvs rs))
    (k : ∀ rs' W', InX kp rs' → rwvs rs' = (pruneR (rwvs rs) low low').2.1 → St w0 G (Ky v (Xs rs' (pruneR (rwvs rs) low low').2.2) :: Ky PoolK.c (PlX kp) :: R) W' → RR (nV .i64 (pruneR (rwvs rs) low low').1) W') :
    CallF Try.prog 36 #[v, .int .i64 low'] W RR := by
  refine sh36_calls ?_
  unfold sh36
  have h : St w0 G (Ky v (Xs rs low) :: Ky PoolK.c (PlX kp) :: R) W := by
    obtain ⟨F, hF, hG⟩ := h.own
    exact { h with own := ⟨F, sepL_swap (sepL_mono j.to (i.to F W hF)), hG⟩ }
  obtain ⟨b, sl, hv, hs, osl, h'⟩ := openX (v := v) h
  subst hv
  replace h := h'
  clear h'
  have hl1 := hb.1
  rw [rwLenvs] at hl1
  have same : low' ≤ low ∨ low' > 1099511627776 → RR (.int .i64 0) W := by
    intro hc
    have e : pruneR (rwvs rs) low low' = (0, rwvs rs, low) := by unfold pruneR; rw [if_pos hc]
    rw [e] at k
    exact k rs W hk rfl (shutX (b := b) (sl := sl) h hs rfl rfl)
  (repeat (first | (with_reducible refine ift ?_) | (with_reducible refine iff' ?_) | (with_reducible refine a_lss ?_) | (with_reducible refine a_leq ?_) | (with_reducible refine a_gtr ?_) | (with_reducible refine a_geq ?_) | (with_reducible refine w_eql ?_) | (with_reducible refine w_neq ?_) | (with_reducible refine s_eql ?_) | (with_reducible refine s_neq ?_) | ((with_reducible refine a_add64 ?h0 ?h1 ?_); (case h0 => omega); (case h1 => omega);  skip) | ((with_reducible refine a_sub64 ?h0 ?h1 ?_); (case h0 => omega); (case h1 => omega);  skip) | ((with_reducible refine a_mul64 ?h0 ?h1 ?_); (case h0 => omega); (case h1 => omega);  skip) | (with_reducible refine a_notd ?_) | (with_reducible refine a_not ?_) | (with_reducible refine a_ext0 ?_) | (with_reducible refine a_ext1 ?_) | (with_reducible refine a_ext2 ?_) | (with_reducible refine x_len ?_) | (with_reducible refine x_lens ?_) | (with_reducible refine x_eqb ?_) | (with_reducible refine x_neb ?_) | (with_reducible refine x_nilP ?_) | (with_reducible refine x_nilPn ?_) | (with_reducible refine x_nilF ?_) | (with_reducible refine x_nilFF ?_) | (with_reducible refine w_eqlL ?_) | (with_reducible refine w_neqL ?_) | (with_reducible refine s_eqlL ?_) | (with_reducible refine ifnt ?_) | (with_reducible refine ifnf ?_) | (with_reducible refine x_eqB ?_) | (with_reducible refine x_neB ?_) | (with_reducible refine x_lssL ?_) | (with_reducible refine x_gtrL ?_) | (with_reducible refine x_geqL ?_) | (with_reducible refine s_neqL ?_) | (with_reducible refine St.load h ?_) | (with_reducible refine St.loadS h ?_) | (with_reducible refine a_fld0 ?_) | (with_reducible refine St.store h fun W h => ?_) | (with_reducible refine St.storeS h fun W h => ?_) | (with_reducible refine St.alloc h fun b W h => ?_) | (with_reducible refine St.allocS h fun b W h => ?_) | (with_reducible refine a_nil ?_) | (with_reducible refine ss_load ?_) | (with_reducible refine ss_loadS ?_) | (with_reducible refine ss_eqb ?_)))
  refine ifd (fun hc => same (.inl hc)) fun hc => ?_
  (repeat (first | (with_reducible refine ift ?_) | (with_reducible refine iff' ?_) | (with_reducible refine a_lss ?_) | (with_reducible refine a_leq ?_) | (with_reducible refine a_gtr ?_) | (with_reducible refine a_geq ?_) | (with_reducible refine w_eql ?_) | (with_reducible refine w_neq ?_) | (with_reducible refine s_eql ?_) | (with_reducible refine s_neq ?_) | ((with_reducible refine a_add64 ?h0 ?h1 ?_); (case h0 => omega); (case h1 => omega);  skip) | ((with_reducible refine a_sub64 ?h0 ?h1 ?_); (case h0 => omega); (case h1 => omega);  skip) | ((with_reducible refine a_mul64 ?h0 ?h1 ?_); (case h0 => omega); (case h1 => omega);  skip) | (with_reducible refine a_notd ?_) | (with_reducible refine a_not ?_) | (with_reducible refine a_ext0 ?_) | (with_reducible refine a_ext1 ?_) | (with_reducible refine a_ext2 ?_) | (with_reducible refine x_len ?_) | (with_reducible refine x_lens ?_) | (with_reducible refine x_eqb ?_) | (with_reducible refine x_neb ?_) | (with_reducible refine x_nilP ?_) | (with_reducible refine x_nilPn ?_) | (with_reducible refine x_nilF ?_) | (with_reducible refine x_nilFF ?_) | (with_reducible refine w_eqlL ?_) | (with_reducible refine w_neqL ?_) | (with_reducible refine s_eqlL ?_) | (with_reducible refine ifnt ?_) | (with_reducible refine ifnf ?_) | (with_reducible refine x_eqB ?_) | (with_reducible refine x_neB ?_) | (with_reducible refine x_lssL ?_) | (with_reducible refine x_gtrL ?_) | (with_reducible refine x_geqL ?_) | (with_reducible refine s_neqL ?_) | (with_reducible refine St.load h ?_) | (with_reducible refine St.loadS h ?_) | (with_reducible refine a_fld0 ?_) | (with_reducible refine St.store h fun W h => ?_) | (with_reducible refine St.storeS h fun W h => ?_) | (with_reducible refine St.alloc h fun b W h => ?_) | (with_reducible refine St.allocS h fun b W h => ?_) | (with_reducible refine a_nil ?_) | (with_reducible refine ss_load ?_) | (with_reducible refine ss_loadS ?_) | (with_reducible refine ss_eqb ?_)))
  refine ifd (fun hc2 => same (.inr hc2)) fun hc2 => ?_
  have e : pruneR (rwvs rs) low low' = (countR (rwvs rs) - countR ((rwvs rs).filterMap (prune1 low')), (rwvs rs).filterMap (prune1 low'), low') := by
    unfold pruneR
    rw [if_neg fun h => h.elim hc hc2]
  rw [e] at k
  clear same
  (repeat (first | (with_reducible refine ift ?_) | (with_reducible refine iff' ?_) | (with_reducible refine a_lss ?_) | (with_reducible refine a_leq ?_) | (with_reducible refine a_gtr ?_) | (with_reducible refine a_geq ?_) | (with_reducible refine w_eql ?_) | (with_reducible refine w_neq ?_) | (with_reducible refine s_eql ?_) | (with_reducible refine s_neq ?_) | ((with_reducible refine a_add64 ?h0 ?h1 ?_); (case h0 => omega); (case h1 => omega);  skip) | ((with_reducible refine a_sub64 ?h0 ?h1 ?_); (case h0 => omega); (case h1 => omega);  skip) | ((with_reducible refine a_mul64 ?h0 ?h1 ?_); (case h0 => omega); (case h1 => omega);  skip) | (with_reducible refine a_notd ?_) | (with_reducible refine a_not ?_) | (with_reducible refine a_ext0 ?_) | (with_reducible refine a_ext1 ?_) | (with_reducible refine a_ext2 ?_) | (with_reducible refine x_len ?_) | (with_reducible refine x_lens ?_) | (with_reducible refine x_eqb ?_) | (with_reducible refine x_neb ?_) | (with_reducible refine x_nilP ?_) | (with_reducible refine x_nilPn ?_) | (with_reducible refine x_nilF ?_) | (with_reducible refine x_nilFF ?_) | (with_reducible refine w_eqlL ?_) | (with_reducible refine w_neqL ?_) | (with_reducible refine s_eqlL ?_) | (with_reducible refine ifnt ?_) | (with_reducible refine ifnf ?_) | (with_reducible refine x_eqB ?_) | (with_reducible refine x_neB ?_) | (with_reducible refine x_lssL ?_) | (with_reducible refine x_gtrL ?_) | (with_reducible refine x_geqL ?_) | (with_reducible refine s_neqL ?_) | (with_reducible refine St.load h ?_) | (with_reducible refine St.loadS h ?_) | (with_reducible refine a_fld0 ?_) | (with_reducible refine St.store h fun W h => ?_) | (with_reducible refine St.storeS h fun W h => ?_) | (with_reducible refine St.alloc h fun b W h => ?_) | (with_reducible refine St.allocS h fun b W h => ?_) | (with_reducible refine a_nil ?_) | (with_reducible refine ss_load ?_) | (with_reducible refine ss_loadS ?_) | (with_reducible refine ss_eqb ?_)))
  have hcb := countR_bd hb.2
  rw [rwLenvs] at hcb
  have hcb2 : rs.length * n ≤ 500000 * 500000 := Nat.mul_le_mul (by omega) (by omega)
  replace h : St w0 G (Ky (.slice none 0 0 : Value) (Ow 130 2 0 (pcells (mpvs ([] : Rsvs)))) :: Ky b (Ob (.cells [sl, .int .i64 low'].toArray 63 (0, 0))) :: Ky sl (Ow 130 2 rs.length (pcells (mpvs rs))) :: Ky PoolK.c (PlX kp) :: R) W := h.nilOw
  refine lpx (α := Value × Nat) (fun x => [nV .i64 (lostR low' (rwvs rs) x.2), x.1, nV .i64 x.2]) (fun x W' => x.2 ≤ rs.length ∧ Cel1 x.1 ∧ ∃ rsA : Rsvs, InX kp rsA ∧ rwvs rsA = ((rwvs rs).take x.2).filterMap (prune1 low') ∧
      St w0 G (Ky x.1 (Ow 130 2 rsA.length (pcells (mpvs rsA))) :: Ky b (Ob (.cells [sl, .int .i64 low'].toArray 63 (0, 0))) :: Ky sl (Ow 130 2 rs.length (pcells (mpvs rs))) :: Ky PoolK.c (PlX kp) :: R) W') (fun x => rs.length - x.2) (.slice none 0 0, 0) (fun _ => rfl) rfl
    ⟨Nat.zero_le _, ⟨rfl⟩, [], (fun r hr => by cases hr), rfl, h⟩ ?_
  clear h
  rintro next ⟨sv, i⟩ W1 hnext ⟨hi, osv, rsA, hkA, hrA, h⟩
  simp only at hi osv hrA h ⊢
  refine app3 ?_
  (repeat (first | (with_reducible refine ift ?_) | (with_reducible refine iff' ?_) | (with_reducible refine a_lss ?_) | (with_reducible refine a_leq ?_) | (with_reducible refine a_gtr ?_) | (with_reducible refine a_geq ?_) | (with_reducible refine w_eql ?_) | (with_reducible refine w_neq ?_) | (with_reducible refine s_eql ?_) | (with_reducible refine s_neq ?_) | ((with_reducible refine a_add64 ?h0 ?h1 ?_); (case h0 => omega); (case h1 => omega);  skip) | ((with_reducible refine a_sub64 ?h0 ?h1 ?_); (case h0 => omega); (case h1 => omega);  skip) | ((with_reducible refine a_mul64 ?h0 ?h1 ?_); (case h0 => omega); (case h1 => omega);  skip) | (with_reducible refine a_notd ?_) | (with_reducible refine a_not ?_) | (with_reducible refine a_ext0 ?_) | (with_reducible refine a_ext1 ?_) | (with_reducible refine a_ext2 ?_) | (with_reducible refine x_len ?_) | (with_reducible refine x_lens ?_) | (with_reducible refine x_eqb ?_) | (with_reducible refine x_neb ?_) | (with_reducible refine x_nilP ?_) | (with_reducible refine x_nilPn ?_) | (with_reducible refine x_nilF ?_) | (with_reducible refine x_nilFF ?_) | (with_reducible refine w_eqlL ?_) | (with_reducible refine w_neqL ?_) | (with_reducible refine s_eqlL ?_) | (with_reducible refine ifnt ?_) | (with_reducible refine ifnf ?_) | (with_reducible refine x_eqB ?_) | (with_reducible refine x_neB ?_) | (with_reducible refine x_lssL ?_) | (with_reducible refine x_gtrL ?_) | (with_reducible refine x_geqL ?_) | (with_reducible refine s_neqL ?_) | (with_reducible refine St.load h ?_) | (with_reducible refine St.loadS h ?_) | (with_reducible refine a_fld0 ?_) | (with_reducible refine St.store h fun W h => ?_) | (with_reducible refine St.storeS h fun W h => ?_) | (with_reducible refine St.alloc h fun b W h => ?_) | (with_reducible refine St.allocS h fun b W h => ?_) | (with_reducible refine a_nil ?_) | (with_reducible refine ss_load ?_) | (with_reducible refine ss_loadS ?_) | (with_reducible refine ss_eqb ?_)))
  refine x_lenS (h.osl (v := sl)) ?_
  refine a_lss (ifd (fun hlt => ?_) fun hge => ?_)
  · obtain ⟨r, hri⟩ : ∃ r, rs[i]? = some r := ⟨_, List.getElem?_eq_getElem (by omega)⟩
    have hmem := List.mem_of_getElem? hri
    have hrl := rwRow hri
    have hlc : r.2.2.length ≤ n := hb.2 (r.1, r.2.2) (List.mem_of_getElem? hrl)
    have hgc : GdC r.2.2 := hg (r.1, r.2.2) (List.mem_of_getElem? hrl)
    have hch : ∀ {W}, St w0 G (Ky sv (Ow 130 2 rsA.length (pcells (mpvs rsA))) :: Ky b (Ob (.cells [sl, .int .i64 low'].toArray 63 (0, 0))) :: Ky sl (Ow 130 2 rs.length (pcells (mpvs rs))) :: Ky PoolK.c (PlX kp) :: R) W → Sl W 3 r.2.1.v r.2.2.length (chCvs r.2.2) := fun h => hk.ch h r hmem
    have hst := lostR_stepvs (low' := low') hrl
    simp only at hst
    have hpl := prunedC_len r.2.2 low'
    have hlb : lostR low' (rwvs rs) (i + 1) ≤ countR (rwvs rs) := by
      unfold lostR
      have := countR_append ((rwvs rs).take (i + 1)) ((rwvs rs).drop (i + 1))
      rw [List.take_append_drop] at this
      omega
    have hrAl : rsA.length ≤ i := by
      have := congrArg List.length hrA
      rw [rwLenvs] at this
      have h2 := List.length_filterMap_le (prune1 low') ((rwvs rs).take i)
      rw [List.length_take] at h2
      omega
    (repeat (first | (with_reducible refine ift ?_) | (with_reducible refine iff' ?_) | (with_reducible refine a_lss ?_) | (with_reducible refine a_leq ?_) | (with_reducible refine a_gtr ?_) | (with_reducible refine a_geq ?_) | (with_reducible refine w_eql ?_) | (with_reducible refine w_neq ?_) | (with_reducible refine s_eql ?_) | (with_reducible refine s_neq ?_) | ((with_reducible refine a_add64 ?h0 ?h1 ?_); (case h0 => omega); (case h1 => omega);  skip) | ((with_reducible refine a_sub64 ?h0 ?h1 ?_); (case h0 => omega); (case h1 => omega);  skip) | ((with_reducible refine a_mul64 ?h0 ?h1 ?_); (case h0 => omega); (case h1 => omega);  skip) | (with_reducible refine a_notd ?_) | (with_reducible refine a_not ?_) | (with_reducible refine a_ext0 ?_) | (with_reducible refine a_ext1 ?_) | (with_reducible refine a_ext2 ?_) | (with_reducible refine x_len ?_) | (with_reducible refine x_lens ?_) | (with_reducible refine x_eqb ?_) | (with_reducible refine x_neb ?_) | (with_reducible refine x_nilP ?_) | (with_reducible refine x_nilPn ?_) | (with_reducible refine x_nilF ?_) | (with_reducible refine x_nilFF ?_) | (with_reducible refine w_eqlL ?_) | (with_reducible refine w_neqL ?_) | (with_reducible refine s_eqlL ?_) | (with_reducible refine ifnt ?_) | (with_reducible refine ifnf ?_) | (with_reducible refine x_eqB ?_) | (with_reducible refine x_neB ?_) | (with_reducible refine x_lssL ?_) | (with_reducible refine x_gtrL ?_) | (with_reducible refine x_geqL ?_) | (with_reducible refine s_neqL ?_) | (with_reducible refine St.load h ?_) | (with_reducible refine St.loadS h ?_) | (with_reducible refine a_fld0 ?_) | (with_reducible refine St.store h fun W h => ?_) | (with_reducible refine St.storeS h fun W h => ?_) | (with_reducible refine St.alloc h fun b W h => ?_) | (with_reducible refine St.allocS h fun b W h => ?_) | (with_reducible refine a_nil ?_) | (with_reducible refine ss_load ?_) | (with_reducible refine ss_loadS ?_) | (with_reducible refine ss_eqb ?_)))
    refine x_fld (h.osl (v := sl)) (by omega) (by decide) (pcells_get (mpRow hri)).2 ?_
    -- the first ones dropped
    refine jni (fun vs W' => ∃ d, d = seenN r.2.2 low' - 1 ∧ vs = [.pointer (some ⟨b, 0, none⟩), .int .i64 low', nV .i64 (lostR low' (rwvs rs) i + d), sv, nV .i64 i, cutF r.2.1.v 3 d] ∧ W' = W1) ?_ ?_
    · rintro vs W2 _ ⟨d, hd, rfl, rfl⟩
      have hsle := seenN_le r.2.2 low'
      have hdl : d ≤ r.2.2.length := by omega
      refine app6 ?_
      have hcut := (hch h).cutF (i := d) hdl
      rw [← rc_drop ver3vs] at hcut
      -- the row laid behind the others
      refine jni (fun vs W' => ∃ d', prunedC r.2.2 low' = r.2.2.drop d' ∧ d' ≤ r.2.2.length ∧ vs = [.pointer (some ⟨b, 0, none⟩), .int .i64 low', nV .i64 (lostR low' (rwvs rs) i + d'), sv, nV .i64 i, cutF r.2.1.v 3 d'] ∧ W' = W2) ?_ ?_
      · rintro vs W3 _ ⟨d', hpd, hd'l, rfl, rfl⟩
        refine app6 ?_
        have hcut' := (hch h).cutF (i := d') hd'l
        rw [← rc_drop ver3vs] at hcut'
        have hdd := prunedC_drop_len hpd hd'l
        have hstn : lostR low' (rwvs rs) (i + 1) = lostR low' (rwvs rs) i + d' := by rw [hst, hdd]
        refine jni (fun vs W' => ∃ sv' rsA', vs = [.pointer (some ⟨b, 0, none⟩), .int .i64 low', nV .i64 (lostR low' (rwvs rs) (i + 1)), sv', nV .i64 i] ∧ Cel1 sv' ∧ InX kp rsA' ∧ rwvs rsA' = ((rwvs rs).take (i + 1)).filterMap (prune1 low') ∧
          St w0 G (Ky sv' (Ow 130 2 rsA'.length (pcells (mpvs rsA'))) :: Ky b (Ob (.cells [sl, .int .i64 low'].toArray 63 (0, 0))) :: Ky sl (Ow 130 2 rs.length (pcells (mpvs rs))) :: Ky PoolK.c (PlX kp) :: R) W') ?_ ?_
        · rintro vs W4 _ ⟨sv', rsA', rfl, o', a1, a2, h⟩
          refine app5 ?_
          refine a_add64 (by omega) (by omega) ⟨rfl, rfl, ?_⟩
          rw [show ((i : Int) + 1) = ((i + 1 : Nat) : Int) by push_cast; rfl]
          exact hnext (sv', i + 1) W4 (by show rs.length - (i + 1) < rs.length - i; omega) ⟨by show i + 1 ≤ _; omega, o', rsA', a1, a2, h⟩
        refine x_lenS hcut' ?_
        refine a_gtr (ifd (fun hpos => ?_) fun hz => ?_)
        · have e0 : (prunedC r.2.2 low').isEmpty = false := by
            rw [hpd]
            cases hx : r.2.2.drop d' with
            | nil => have := congrArg List.length hx; rw [List.length_drop] at this; simp at this; omega
            | cons a b => rfl
          have ep : prune1 low' (r.1, r.2.2) = some (r.1, prunedC r.2.2 low') := by unfold prune1; rw [e0]; rfl
          (repeat (first | (with_reducible refine ift ?_) | (with_reducible refine iff' ?_) | (with_reducible refine a_lss ?_) | (with_reducible refine a_leq ?_) | (with_reducible refine a_gtr ?_) | (with_reducible refine a_geq ?_) | (with_reducible refine w_eql ?_) | (with_reducible refine w_neq ?_) | (with_reducible refine s_eql ?_) | (with_reducible refine s_neq ?_) | ((with_reducible refine a_add64 ?h0 ?h1 ?_); (case h0 => omega); (case h1 => omega);  skip) | ((with_reducible refine a_sub64 ?h0 ?h1 ?_); (case h0 => omega); (case h1 => omega);  skip) | ((with_reducible refine a_mul64 ?h0 ?h1 ?_); (case h0 => omega); (case h1 => omega);  skip) | (with_reducible refine a_notd ?_) | (with_reducible refine a_not ?_) | (with_reducible refine a_ext0 ?_) | (with_reducible refine a_ext1 ?_) | (with_reducible refine a_ext2 ?_) | (with_reducible refine x_len ?_) | (with_reducible refine x_lens ?_) | (with_reducible refine x_eqb ?_) | (with_reducible refine x_neb ?_) | (with_reducible refine x_nilP ?_) | (with_reducible refine x_nilPn ?_) | (with_reducible refine x_nilF ?_) | (with_reducible refine x_nilFF ?_) | (with_reducible refine w_eqlL ?_) | (with_reducible refine w_neqL ?_) | (with_reducible refine s_eqlL ?_) | (with_reducible refine ifnt ?_) | (with_reducible refine ifnf ?_) | (with_reducible refine x_eqB ?_) | (with_reducible refine x_neB ?_) | (with_reducible refine x_lssL ?_) | (with_reducible refine x_gtrL ?_) | (with_reducible refine x_geqL ?_) | (with_reducible refine s_neqL ?_) | (with_reducible refine St.load h ?_) | (with_reducible refine St.loadS h ?_) | (with_reducible refine a_fld0 ?_) | (with_reducible refine St.store h fun W h => ?_) | (with_reducible refine St.storeS h fun W h => ?_) | (with_reducible refine St.alloc h fun b W h => ?_) | (with_reducible refine St.allocS h fun b W h => ?_) | (with_reducible refine a_nil ?_) | (with_reducible refine ss_load ?_) | (with_reducible refine ss_loadS ?_) | (with_reducible refine ss_eqb ?_)))
          refine x_fld (h.osl (v := sl)) (by omega) (by decide) (pcells_get (mpRow hri)).1 ?_
          have oc : Cel1 (cutF r.2.1.v 3 d') := .of_sl hcut'
          refine x_bld (cells := #[strV r.1, cutF r.2.1.v 3 d']) (by
            obtain ⟨_, _, hx, _⟩ := hcut'
            rw [hx]; rfl) ?_
          refine h.lit (vs := [.agg [strV r.1, cutF r.2.1.v 3 d'].toArray]) (cs := [strV r.1, cutF r.2.1.v 3 d']) (fun u W o2 h => ?_) (by decide)
          refine St.app (v := sv) h (h.osl (v := u)) (by intro c hc; simp only [List.mem_cons, List.not_mem_nil, or_false] at hc; exact hc.elim (fun h => h ▸ rfl) fun h => h ▸ oc.one) (by unfold maxLen; omega) (by omega) fun sv' W' o' h _ => ?_
          have hx : nV .i64 (lostR low' (rwvs rs) i + d') = nV .i64 (lostR low' (rwvs rs) (i + 1)) := by rw [hstn]
          refine ⟨sv', rsA ++ [(r.1, ⟨cutF r.2.1.v 3 d', oc.one⟩, r.2.2.drop d')], by rw [hx], o', ?_, ?_, ?_⟩
          · intro q hq
            rcases List.mem_append.1 hq with hq | hq
            · exact hkA q hq
            · obtain rfl : q = (r.1, ⟨cutF r.2.1.v 3 d', oc.one⟩, r.2.2.drop d') := by simpa using hq
              obtain ⟨z, hz, dz, hdz, e1, e2⟩ := hk r hmem
              refine ⟨z, hz, dz + d', ?_, ?_, ?_⟩
              · have := congrArg List.length e2; rw [List.length_drop] at this; omega
              · show cutF r.2.1.v 3 d' = _
                rw [e1, cutF_add]
              · show r.2.2.drop d' = _
                rw [e2, List.drop_drop]
          · rw [takeFMvs hri, ep, ← hrA, hpd]; simp [rwvs, mapV]
          · have em : pcells (mpvs (rsA ++ [(r.1, (⟨cutF r.2.1.v 3 d', oc.one⟩ : OneV), r.2.2.drop d')])) = pcells (mpvs rsA) ++ [strV r.1, cutF r.2.1.v 3 d'] := by
              have : mpvs (rsA ++ [(r.1, (⟨cutF r.2.1.v 3 d', oc.one⟩ : OneV), r.2.2.drop d')]) = mpvs rsA ++ [(r.1, (⟨cutF r.2.1.v 3 d', oc.one⟩ : OneV))] := by simp [mpvs, mapV]
              rw [this, pcells_append]; rfl
            rw [em, List.length_append]
            exact h.to
        · have e0 : prunedC r.2.2 low' = [] := by
            rw [hpd]
            exact List.eq_nil_of_length_eq_zero (by rw [List.length_drop]; omega)
          have ep : prune1 low' (r.1, r.2.2) = none := by unfold prune1; rw [e0]; rfl
          have hx : nV .i64 (lostR low' (rwvs rs) i + d') = nV .i64 (lostR low' (rwvs rs) (i + 1)) := by rw [hstn]
          refine ⟨sv, rsA, by rw [hx], osv, hkA, ?_, h⟩
          rw [takeFMvs hri, ep, hrA]; simp
      -- is the first gone?
      have noCut : (∀ u, r.2.2[d]? = some u → ¬ (u.2.2 = true ∧ u.1 ≤ low')) → prunedC r.2.2 low' = r.2.2.drop d := by
        intro hno
        unfold prunedC
        rw [← hd]
        cases hx : r.2.2.drop d with
        | nil => rfl
        | cons a t =>
          show (if a.2.2 = true ∧ a.1 ≤ low' then t else a :: t) = _
          rw [if_neg]
          refine hno a ?_
          have : (r.2.2.drop d)[0]? = some a := by rw [hx]; rfl
          rw [List.getElem?_drop] at this
          simpa using this
      refine x_lenS hcut ?_
      refine a_gtr (ifd (fun hpos => ?_) fun hz => ?_)
      · obtain ⟨u, hu⟩ : ∃ u, r.2.2[d]? = some u := ⟨_, List.getElem?_eq_getElem (by omega)⟩
        have hu' : (r.2.2.drop d)[0]? = some u := by rw [List.getElem?_drop]; simpa using hu
        refine x_fld (i := 0) hcut (by omega) (by decide) (chCvs_2 (i := 0) hu') ?_
        refine ifb (fun hgone => ?_) fun hgone => ?_
        · refine x_fld (i := 0) hcut (by omega) (by decide) (chCvs_0 (i := 0) hu') ?_
          refine a_leq (ifd (fun hle => ?_) fun hgt => ?_)
          · refine x_cutF (hch h) (by omega) ?_
            refine a_add64 (by omega) (by omega) ?_
            refine ⟨d + 1, ?_, by omega, ?_, rfl⟩
            · unfold prunedC
              rw [← hd, ← List.drop_drop]
              cases hx : r.2.2.drop d with
              | nil => rw [hx] at hu'; cases hu'
              | cons a t =>
                rw [hx] at hu'; cases hu'
                show (if u.2.2 = true ∧ u.1 ≤ low' then t else u :: t) = _
                rw [if_pos ⟨hgone, hle⟩]; rfl
            · rw [show (((lostR low' (rwvs rs) i + d : Nat) : Int) + 1) = ((lostR low' (rwvs rs) i + (d + 1) : Nat) : Int) by push_cast; omega]
          · refine ⟨d, noCut fun u' hu2 => ?_, hdl, rfl, rfl⟩
            rw [hu] at hu2; cases hu2
            exact fun hx => hgt hx.2
        · refine ⟨d, noCut fun u' hu2 => ?_, hdl, rfl, rfl⟩
          rw [hu] at hu2; cases hu2
          intro hx; rw [hgone] at hx; cases hx.1
      · refine ⟨d, noCut fun u' hu2 => ?_, hdl, rfl, rfl⟩
        have := (List.getElem?_eq_some_iff.1 hu2).1
        omega
    · refine lpx (α := Nat) (fun d => [nV .i64 (lostR low' (rwvs rs) i + d), cutF r.2.1.v 3 d]) (fun d W' => d ≤ seenN r.2.2 low' - 1 ∧ W' = W1) (fun d => r.2.2.length - d) 0 (fun _ => rfl) rfl ⟨Nat.zero_le _, rfl⟩ ?_
      rintro next2 d W2 hnext2 ⟨hd, rfl⟩
      have hsle := seenN_le r.2.2 low'
      have hdl : d ≤ r.2.2.length := by omega
      have hcut := (hch h).cutF (i := d) hdl
      rw [← rc_drop ver3vs] at hcut
      refine app2 ?_
      refine x_lenS hcut ?_
      refine a_gtr (ifd (fun hpos => ?_) fun hz => ?_)
      · obtain ⟨u, hu⟩ : ∃ u, r.2.2[d + 1]? = some u := ⟨_, List.getElem?_eq_getElem (by omega)⟩
        have hu' : (r.2.2.drop d)[1]? = some u := by rw [List.getElem?_drop]; exact hu
        refine x_fld (i := 1) hcut (by omega) (by decide) (chCvs_0 (i := 1) hu') ?_
        refine a_leq (ifd (fun hle => ?_) fun hgt => ?_)
        · have := hgc.step hu hle
          refine x_cutF (hch h) (by omega) ?_
          refine a_add64 (by omega) (by omega) ⟨trivial, trivial, trivial, trivial, ?_⟩
          rw [show (((lostR low' (rwvs rs) i + d : Nat) : Int) + 1) = ((lostR low' (rwvs rs) i + (d + 1) : Nat) : Int) by push_cast; omega]
          exact hnext2 (d + 1) W2 (by omega) ⟨by omega, rfl⟩
        · exact ⟨d, hgc.stop hd (.inr ⟨u, hu, by omega⟩), rfl, rfl⟩
      · exact ⟨d, hgc.stop hd (.inl (by omega)), rfl, rfl⟩
  · obtain rfl : i = rs.length := by omega
    rw [← rwLenvs] at hrA
    rw [List.take_length] at hrA
    (repeat (first | (with_reducible refine ift ?_) | (with_reducible refine iff' ?_) | (with_reducible refine a_lss ?_) | (with_reducible refine a_leq ?_) | (with_reducible refine a_gtr ?_) | (with_reducible refine a_geq ?_) | (with_reducible refine w_eql ?_) | (with_reducible refine w_neq ?_) | (with_reducible refine s_eql ?_) | (with_reducible refine s_neq ?_) | ((with_reducible refine a_add64 ?h0 ?h1 ?_); (case h0 => omega); (case h1 => omega);  skip) | ((with_reducible refine a_sub64 ?h0 ?h1 ?_); (case h0 => omega); (case h1 => omega);  skip) | ((with_reducible refine a_mul64 ?h0 ?h1 ?_); (case h0 => omega); (case h1 => omega);  skip) | (with_reducible refine a_notd ?_) | (with_reducible refine a_not ?_) | (with_reducible refine a_ext0 ?_) | (with_reducible refine a_ext1 ?_) | (with_reducible refine a_ext2 ?_) | (with_reducible refine x_len ?_) | (with_reducible refine x_lens ?_) | (with_reducible refine x_eqb ?_) | (with_reducible refine x_neb ?_) | (with_reducible refine x_nilP ?_) | (with_reducible refine x_nilPn ?_) | (with_reducible refine x_nilF ?_) | (with_reducible refine x_nilFF ?_) | (with_reducible refine w_eqlL ?_) | (with_reducible refine w_neqL ?_) | (with_reducible refine s_eqlL ?_) | (with_reducible refine ifnt ?_) | (with_reducible refine ifnf ?_) | (with_reducible refine x_eqB ?_) | (with_reducible refine x_neB ?_) | (with_reducible refine x_lssL ?_) | (with_reducible refine x_gtrL ?_) | (with_reducible refine x_geqL ?_) | (with_reducible refine s_neqL ?_) | (with_reducible refine St.load h ?_) | (with_reducible refine St.loadS h ?_) | (with_reducible refine a_fld0 ?_) | (with_reducible refine St.store h fun W h => ?_) | (with_reducible refine St.storeS h fun W h => ?_) | (with_reducible refine St.alloc h fun b W h => ?_) | (with_reducible refine St.allocS h fun b W h => ?_) | (with_reducible refine a_nil ?_) | (with_reducible refine ss_load ?_) | (with_reducible refine ss_loadS ?_) | (with_reducible refine ss_eqb ?_)))
    have hx : nV .i64 (lostR low' (rwvs rs) rs.length) = nV .i64 (countR (rwvs rs) - countR ((rwvs rs).filterMap (prune1 low'))) := by
      unfold lostR
      rw [← rwLenvs, List.take_length]
    rw [hx]
    have hsA : Srt rsA := by
      have : Srt (rwvs rsA) := by rw [hrA]; exact prune_srt ((mapV_srt _).2 hs) low'
      exact (mapV_srt _).1 this
    exact k rsA W hkA hrA (shutX (b := b) (sl := sv) h hsA rfl rfl).to

/-- hbllaw11.chain -/
theorem chainEq_spec {c : List (Ver Txt)} {a b : Value} {n m : Nat} (ha : Sl W 3 a n (chCvs c)) (hb : Sl W 3 b m (chCvs c)) (hn : n = c.length) (hm : m = c.length) (hl : c.length ≤ 1000000) (k : ∀ W', Below W.heap.size W W' → RR (.bool true) W') :
    CallF Try.prog 41 #[a, b] W RR := by
  refine sh41_calls ?_
  unfold sh41
  subst hn; subst hm
  refine x_lenS ha (x_lenS hb (w_neq (ifd_neg (fun h => h rfl) ?_)))
  refine lpx (α := Nat) (fun i => [nV .i64 i]) (fun i W' => i ≤ c.length ∧ Below W.heap.size W W') (fun i => c.length - i) 0 (fun _ => rfl) rfl ⟨Nat.zero_le _, Below.refl _ _⟩ ?_
  rintro next i W1 hnext ⟨hi, hb1⟩
  refine app1 ?_
  refine x_lenS ha ?_
  refine a_lss (ifd (fun hc => ?_) fun hc => ?_)
  · obtain ⟨u, hu⟩ : ∃ d, c[i]? = some d := ⟨_, List.getElem?_eq_getElem (by omega)⟩
    have hb2 : Below W.heap.size W W1.drew := hb1.drew
    refine ⟨fun W2 => W2 = _, rfl, ?_⟩
    refine x_sfld (ha.below hb2) (fun _ e => by subst e; exact ha.below hb2) (by omega) (by decide) (chCvs_0 hu) ?_
    refine x_sfld (hb.below hb2) (fun _ e => by subst e; exact hb.below hb2) (by omega) (by decide) (chCvs_0 hu) ?_
    refine s_neq (ifd_neg (fun h => h rfl) ?_)
    refine x_sfld (ha.below hb2) (fun _ e => by subst e; exact ha.below hb2) (by omega) (by decide) (chCvs_1 hu) ?_
    refine x_sfld (hb.below hb2) (fun _ e => by subst e; exact hb.below hb2) (by omega) (by decide) (chCvs_1 hu) ?_
    refine s_neqL (ifd_neg (fun h => h rfl) ?_)
    refine x_sfld (ha.below hb2) (fun _ e => by subst e; exact ha.below hb2) (by omega) (by decide) (chCvs_2 hu) ?_
    refine x_sfld (hb.below hb2) (fun _ e => by subst e; exact hb.below hb2) (by omega) (by decide) (chCvs_2 hu) ?_
    refine s_neb ?_
    rw [show (!(u.2.2 == u.2.2)) = false by simp]
    refine iff' (a_add64 (by omega) (by omega) ⟨rfl, rfl, ?_⟩)
    rw [show ((i : Int) + 1) = ((i + 1 : Nat) : Int) by push_cast; rfl]
    exact hnext (i + 1) _ (by omega) ⟨by omega, hb2⟩
  · exact k _ hb1
end
end Go.Proofs.Ytffnabbchghokaa
