/-
  VERSIONS (of string): a store pruned, copied: what each function answers.
-/
import Derived.Test.YtffnabbchghokaaVerBvs
namespace Go.Proofs.Ytffnabbchghokaa
open Go Go.Ez Go.RowKit
set_option linter.unusedSimpArgs false
set_option linter.unusedVariables false

section
variable {w0 W W' : World} {G : Nat → Prop} {l R R1 : List As} {rs : Rsvs} {low : Int} {v : Value} {RR : Value → World → Prop} {kp : List (Value × List (Ver Txt))}

/-- copy -/
theorem vcopyvs_spec [i : Has l v (Vsvs rs low) R] (h : St w0 G l W) (hl : rs.length ≤ 1000000) (k : ∀ c W', Cel1 c → St w0 G (Ky c (Vsvs rs low) :: Ky v (Vsvs rs low) :: R) W' → RR c W') : CallF Try.prog 37 #[v] W RR := by
  refine sh37_calls ?_
  unfold sh37
  obtain ⟨b, mv, hv, h'⟩ := h.openVvs (v := v)
  subst hv
  replace h := h'
  clear h'
  replace h := h.drew
  refine ⟨St w0 G _, h, ?_⟩
  (repeat (first | (with_reducible refine ift ?_) | (with_reducible refine iff' ?_) | (with_reducible refine a_lss ?_) | (with_reducible refine a_leq ?_) | (with_reducible refine a_gtr ?_) | (with_reducible refine a_geq ?_) | (with_reducible refine w_eql ?_) | (with_reducible refine w_neq ?_) | (with_reducible refine s_eql ?_) | (with_reducible refine s_neq ?_) | ((with_reducible refine a_add64 ?h0 ?h1 ?_); (case h0 => omega); (case h1 => omega);  skip) | ((with_reducible refine a_sub64 ?h0 ?h1 ?_); (case h0 => omega); (case h1 => omega);  skip) | ((with_reducible refine a_mul64 ?h0 ?h1 ?_); (case h0 => omega); (case h1 => omega);  skip) | (with_reducible refine a_notd ?_) | (with_reducible refine a_not ?_) | (with_reducible refine a_ext0 ?_) | (with_reducible refine a_ext1 ?_) | (with_reducible refine a_ext2 ?_) | (with_reducible refine x_len ?_) | (with_reducible refine x_lens ?_) | (with_reducible refine x_eqb ?_) | (with_reducible refine x_neb ?_) | (with_reducible refine x_nilP ?_) | (with_reducible refine x_nilPn ?_) | (with_reducible refine x_nilF ?_) | (with_reducible refine x_nilFF ?_) | (with_reducible refine w_eqlL ?_) | (with_reducible refine w_neqL ?_) | (with_reducible refine s_eqlL ?_) | (with_reducible refine ifnt ?_) | (with_reducible refine ifnf ?_) | (with_reducible refine x_eqB ?_) | (with_reducible refine x_neB ?_) | (with_reducible refine x_lssL ?_) | (with_reducible refine x_gtrL ?_) | (with_reducible refine x_geqL ?_) | (with_reducible refine s_neqL ?_) | (with_reducible refine St.load h ?_) | (with_reducible refine St.loadS h ?_) | (with_reducible refine a_fld0 ?_) | (with_reducible refine St.store h fun W h => ?_) | (with_reducible refine St.storeS h fun W h => ?_) | (with_reducible refine St.alloc h fun b W h => ?_) | (with_reducible refine St.allocS h fun b W h => ?_) | (with_reducible refine a_nil ?_) | (with_reducible refine ss_load ?_) | (with_reducible refine ss_loadS ?_) | (with_reducible refine ss_eqb ?_)))
  refine copyvs_spec (v := mv) h (by rw [mpLenvs]; omega) fun cv W h => ?_
  refine ⟨h.to, ?_⟩
  obtain ⟨b0, hcv, _⟩ := h.ptrM (v := cv)
  refine x_bld (cells := #[cv, .int .i64 low]) (by subst hcv; rfl) ?_
  refine h.boxS (cs := [cv, .int .i64 low]) fun b2 W h => ?_
  have h1 := h.shutVvs (b := b2) (mv := cv) (rs := rs) rfl
  have h2 := h1.shutVvs (b := b) (mv := mv) (rs := rs) rfl
  exact k _ W ⟨rfl⟩ h2.to

/-- what stays while rows are pruned -/
abbrev PrLvs (b b2 b3 b5 : Nat) (mv : Value) (low' : Int) (n : Nat) (kp : List (Value × List (Ver Txt))) : List As :=
  [Ky b (Ob (.cells [mv, .int .i64 low'].toArray 114 (0, 0))), Ky b2 (Ob (.cells [(.pointer (some ⟨b, 0, none⟩) : Value)].toArray 35 (0, 0))), Ky b3 (Ob (.cells [(.int .i64 low' : Value)].toArray 3 (0, 0))), Ky b5 (Ob (.cells [nV .i64 n].toArray 3 (0, 0))), Ky PoolK.a (Plvs kp)]
def PrCvs (b b2 b3 b5 : Nat) (mv : Value) (low' : Int) (rs : Rsvs) (kp0 : List (Value × List (Ver Txt))) (i : Nat) : As := As.ex fun x : List (Value × List (Ver Txt)) × Rsvs => As.all (Invs x.1 (x.2 ++ rs.drop i) ∧ (∀ z ∈ kp0, z ∈ x.1) ∧ rwvs x.2 = ((rwvs rs).take i).filterMap (prune1 low'))
  (Ky mv (Mpvs (mpvs (x.2 ++ rs.drop i))) :: PrLvs b b2 b3 b5 mv low' (lostR low' (rwvs rs) i) x.1)
def PrC0vs (b b2 b3 b5 : Nat) (mv : Value) (low' : Int) (rs : Rsvs) (kp0 : List (Value × List (Ver Txt))) (i : Nat) : As := As.ex fun x : List (Value × List (Ver Txt)) => As.all (Invs x rs ∧ ∀ z ∈ kp0, z ∈ x) (PrLvs b b2 b3 b5 mv low' 0 x)
theorem prInvs {b b2 b3 b5 : Nat} {mv : Value} {low' : Int} {J : List As} (h : St w0 G (Ky 0 (PrCvs b b2 b3 b5 mv low' rs kp) :: J) W) : St w0 G (Ky mv (Mpvs (mpvs rs)) :: Ky 0 (PrC0vs b b2 b3 b5 mv low' rs kp) :: J) W := by
  obtain ⟨⟨kp1, rs1⟩, h⟩ := St.openE (show St w0 G (As.ex _ :: J) W from h)
  obtain ⟨⟨h1, h2, h3⟩, h⟩ := St.openA h
  have e : rs1 = [] := by
    have : (rwvs rs1).length = 0 := by rw [h3]; simp
    rw [rwLenvs] at this
    exact List.eq_nil_of_length_eq_zero this
  subst e
  exact St.swap (St.shutE kp1 (St.shutA (L := PrLvs b b2 b3 b5 mv low' 0 kp1) ⟨h1, h2⟩ (St.behind h)))
theorem prOutvs {b b2 b3 b5 : Nat} {mv : Value} {low' : Int} {J : List As} (h : St w0 G (Ky mv (Mpvs (mpvs rs)) :: Ky 0 (PrC0vs b b2 b3 b5 mv low' rs kp) :: J) W) : St w0 G (Ky 0 (PrCvs b b2 b3 b5 mv low' rs kp) :: J) W := by
  obtain ⟨kp1, h⟩ := St.openE (show St w0 G (As.ex _ :: _) W from h.swap)
  obtain ⟨⟨h1, h2⟩, h⟩ := St.openA h
  exact St.shutE (kp1, ([] : Rsvs)) (St.shutA (L := Ky mv (Mpvs (mpvs ([] ++ rs.drop 0))) :: PrLvs b b2 b3 b5 mv low' (lostR low' (rwvs rs) 0) kp1) ⟨h1, h2, rfl⟩ (St.before h))

/-- a row's slice -/
theorem mpAtvs {i : Nat} {x : List Value} (h : (tellvs (mpvs rs))[i]? = some x) : ∃ r, rs[i]? = some r ∧ x = [strV r.1, r.2.1.v] := by
  rw [List.getElem?_map] at h
  cases hq : rs[i]? with
  | none => unfold mpvs mapV at h; rw [List.getElem?_map, hq] at h; cases h
  | some q => unfold mpvs mapV at h; rw [List.getElem?_map, hq] at h; cases h; exact ⟨q, rfl, rfl⟩

theorem lostR_stepvs {low' : Int} {rows : VRows Txt} {i : Nat} {r : Txt × List (Ver Txt)} (h : rows[i]? = some r) : lostR low' rows (i + 1) = lostR low' rows i + (r.2.length - (prunedC r.2 low').length) := by
  unfold lostR
  rw [List.take_add_one, h, countR_append, List.filterMap_append, countR_append]
  have e : [r].filterMap (prune1 low') = (prune1 low' r).toList := by
    cases h : prune1 low' r with
    | none => rw [List.filterMap_cons_none h]; rfl
    | some s => rw [List.filterMap_cons_some h]; rfl
  show _ + countR [r] - (_ + countR ([r].filterMap (prune1 low'))) = _
  rw [e, prune1_count]
  have h1 := prune_count low' (rows.take i)
  have h2 := prunedC_len r.2 low'
  have h3 : countR [r] = r.2.length := by simp [countR]
  omega
theorem mpMidvs (A : Rsvs) (r : Txt × OneV × List (Ver Txt)) (D : Rsvs) : mpvs (A ++ r :: D) = mpvs A ++ (r.1, r.2.1) :: mpvs D := by simp [mpvs, mapV]
theorem takeFMvs {low' : Int} {rs : Rsvs} {i : Nat} {r : Txt × OneV × List (Ver Txt)} (h : rs[i]? = some r) : ((rwvs rs).take (i + 1)).filterMap (prune1 low') = ((rwvs rs).take i).filterMap (prune1 low') ++ (prune1 low' (r.1, r.2.2)).toList := by
  have hr : (rwvs rs)[i]? = some (r.1, r.2.2) := mapV_at _ h
  rw [List.take_add_one, hr, List.filterMap_append]
  congr 1

/-- Prune -/
theorem vprunevs_spec {n : Nat} {low' : Int} [i : Has l PoolK.a (Plvs kp) R1] [j : Has R1 v (Vsvs rs low) R] (h : St w0 G l W) (hk : Invs kp rs) (hb : Bd n (rwvs rs)) (hn : n ≤ 500000)
    (k : ∀ kp' rs' W', Invs kp' rs' → (∀ z ∈ kp, z ∈ kp') → rwvs rs' = (pruneR (rwvs rs) low low').2.1 → St w0 G (Ky v (Vsvs rs' (pruneR (rwvs rs) low low').2.2) :: Ky PoolK.a (Plvs kp') :: R) W' → RR (nV .i64 (pruneR (rwvs rs) low low').1) W') :
    CallF Try.prog 26 #[v, .int .i64 low'] W RR := by
  refine sh26_calls ?_
  unfold sh26
  have h : St w0 G (Ky v (Vsvs rs low) :: Ky PoolK.a (Plvs kp) :: R) W := by
    obtain ⟨F, hF, hG⟩ := h.own
    exact { h with own := ⟨F, sepL_swap (sepL_mono j.to (i.to F W hF)), hG⟩ }
  obtain ⟨bs, mv, hv, h'⟩ := h.openVvs (v := v)
  subst hv
  replace h := h'
  clear h'
  refine h.boxV fun b2 W h => ?_
  refine h.boxV fun b3 W h => ?_
  replace h := h.drew
  refine ⟨St w0 G _, h, ?_⟩
  have hl1 := hb.1
  rw [rwLenvs] at hl1
  have same : low' ≤ low ∨ low' > 1099511627776 → ∀ W', St w0 G (Ky b3 (Ob (.cells [(.int .i64 low' : Value)].toArray 3 (0, 0))) :: Ky b2 (Ob (.cells [(.pointer (some ⟨bs, 0, none⟩) : Value)].toArray 35 (0, 0))) :: Ky bs (Ob (.cells [mv, .int .i64 low].toArray 114 (0, 0))) :: Ky mv (Mpvs (mpvs rs)) :: Ky PoolK.a (Plvs kp) :: R) W' → RR (.int .i64 0) W' := by
    intro hc W' h
    have e : pruneR (rwvs rs) low low' = (0, rwvs rs, low) := by unfold pruneR; rw [if_pos hc]
    rw [e] at k
    exact k kp rs W' hk (fun z hz => hz) rfl (h.shutVvs (b := bs) (mv := mv) rfl).to
  (repeat (first | (with_reducible refine ift ?_) | (with_reducible refine iff' ?_) | (with_reducible refine a_lss ?_) | (with_reducible refine a_leq ?_) | (with_reducible refine a_gtr ?_) | (with_reducible refine a_geq ?_) | (with_reducible refine w_eql ?_) | (with_reducible refine w_neq ?_) | (with_reducible refine s_eql ?_) | (with_reducible refine s_neq ?_) | ((with_reducible refine a_add64 ?h0 ?h1 ?_); (case h0 => omega); (case h1 => omega);  skip) | ((with_reducible refine a_sub64 ?h0 ?h1 ?_); (case h0 => omega); (case h1 => omega);  skip) | ((with_reducible refine a_mul64 ?h0 ?h1 ?_); (case h0 => omega); (case h1 => omega);  skip) | (with_reducible refine a_notd ?_) | (with_reducible refine a_not ?_) | (with_reducible refine a_ext0 ?_) | (with_reducible refine a_ext1 ?_) | (with_reducible refine a_ext2 ?_) | (with_reducible refine x_len ?_) | (with_reducible refine x_lens ?_) | (with_reducible refine x_eqb ?_) | (with_reducible refine x_neb ?_) | (with_reducible refine x_nilP ?_) | (with_reducible refine x_nilPn ?_) | (with_reducible refine x_nilF ?_) | (with_reducible refine x_nilFF ?_) | (with_reducible refine w_eqlL ?_) | (with_reducible refine w_neqL ?_) | (with_reducible refine s_eqlL ?_) | (with_reducible refine ifnt ?_) | (with_reducible refine ifnf ?_) | (with_reducible refine x_eqB ?_) | (with_reducible refine x_neB ?_) | (with_reducible refine x_lssL ?_) | (with_reducible refine x_gtrL ?_) | (with_reducible refine x_geqL ?_) | (with_reducible refine s_neqL ?_) | (with_reducible refine St.load h ?_) | (with_reducible refine St.loadS h ?_) | (with_reducible refine a_fld0 ?_) | (with_reducible refine St.store h fun W h => ?_) | (with_reducible refine St.storeS h fun W h => ?_) | (with_reducible refine St.alloc h fun b W h => ?_) | (with_reducible refine St.allocS h fun b W h => ?_) | (with_reducible refine a_nil ?_) | (with_reducible refine ss_load ?_) | (with_reducible refine ss_loadS ?_) | (with_reducible refine ss_eqb ?_)))
  refine ifd (fun hc => same (.inl hc) _ h) fun hc => ?_
  (repeat (first | (with_reducible refine ift ?_) | (with_reducible refine iff' ?_) | (with_reducible refine a_lss ?_) | (with_reducible refine a_leq ?_) | (with_reducible refine a_gtr ?_) | (with_reducible refine a_geq ?_) | (with_reducible refine w_eql ?_) | (with_reducible refine w_neq ?_) | (with_reducible refine s_eql ?_) | (with_reducible refine s_neq ?_) | ((with_reducible refine a_add64 ?h0 ?h1 ?_); (case h0 => omega); (case h1 => omega);  skip) | ((with_reducible refine a_sub64 ?h0 ?h1 ?_); (case h0 => omega); (case h1 => omega);  skip) | ((with_reducible refine a_mul64 ?h0 ?h1 ?_); (case h0 => omega); (case h1 => omega);  skip) | (with_reducible refine a_notd ?_) | (with_reducible refine a_not ?_) | (with_reducible refine a_ext0 ?_) | (with_reducible refine a_ext1 ?_) | (with_reducible refine a_ext2 ?_) | (with_reducible refine x_len ?_) | (with_reducible refine x_lens ?_) | (with_reducible refine x_eqb ?_) | (with_reducible refine x_neb ?_) | (with_reducible refine x_nilP ?_) | (with_reducible refine x_nilPn ?_) | (with_reducible refine x_nilF ?_) | (with_reducible refine x_nilFF ?_) | (with_reducible refine w_eqlL ?_) | (with_reducible refine w_neqL ?_) | (with_reducible refine s_eqlL ?_) | (with_reducible refine ifnt ?_) | (with_reducible refine ifnf ?_) | (with_reducible refine x_eqB ?_) | (with_reducible refine x_neB ?_) | (with_reducible refine x_lssL ?_) | (with_reducible refine x_gtrL ?_) | (with_reducible refine x_geqL ?_) | (with_reducible refine s_neqL ?_) | (with_reducible refine St.load h ?_) | (with_reducible refine St.loadS h ?_) | (with_reducible refine a_fld0 ?_) | (with_reducible refine St.store h fun W h => ?_) | (with_reducible refine St.storeS h fun W h => ?_) | (with_reducible refine St.alloc h fun b W h => ?_) | (with_reducible refine St.allocS h fun b W h => ?_) | (with_reducible refine a_nil ?_) | (with_reducible refine ss_load ?_) | (with_reducible refine ss_loadS ?_) | (with_reducible refine ss_eqb ?_)))
  refine ifd (fun hc2 => same (.inr hc2) _ h) fun hc2 => ?_
  have e : pruneR (rwvs rs) low low' = (countR (rwvs rs) - countR ((rwvs rs).filterMap (prune1 low')), (rwvs rs).filterMap (prune1 low'), low') := by
    unfold pruneR
    rw [if_neg fun h => h.elim hc hc2]
  rw [e] at k
  clear same
  (repeat (first | (with_reducible refine ift ?_) | (with_reducible refine iff' ?_) | (with_reducible refine a_lss ?_) | (with_reducible refine a_leq ?_) | (with_reducible refine a_gtr ?_) | (with_reducible refine a_geq ?_) | (with_reducible refine w_eql ?_) | (with_reducible refine w_neq ?_) | (with_reducible refine s_eql ?_) | (with_reducible refine s_neq ?_) | ((with_reducible refine a_add64 ?h0 ?h1 ?_); (case h0 => omega); (case h1 => omega);  skip) | ((with_reducible refine a_sub64 ?h0 ?h1 ?_); (case h0 => omega); (case h1 => omega);  skip) | ((with_reducible refine a_mul64 ?h0 ?h1 ?_); (case h0 => omega); (case h1 => omega);  skip) | (with_reducible refine a_notd ?_) | (with_reducible refine a_not ?_) | (with_reducible refine a_ext0 ?_) | (with_reducible refine a_ext1 ?_) | (with_reducible refine a_ext2 ?_) | (with_reducible refine x_len ?_) | (with_reducible refine x_lens ?_) | (with_reducible refine x_eqb ?_) | (with_reducible refine x_neb ?_) | (with_reducible refine x_nilP ?_) | (with_reducible refine x_nilPn ?_) | (with_reducible refine x_nilF ?_) | (with_reducible refine x_nilFF ?_) | (with_reducible refine w_eqlL ?_) | (with_reducible refine w_neqL ?_) | (with_reducible refine s_eqlL ?_) | (with_reducible refine ifnt ?_) | (with_reducible refine ifnf ?_) | (with_reducible refine x_eqB ?_) | (with_reducible refine x_neB ?_) | (with_reducible refine x_lssL ?_) | (with_reducible refine x_gtrL ?_) | (with_reducible refine x_geqL ?_) | (with_reducible refine s_neqL ?_) | (with_reducible refine St.load h ?_) | (with_reducible refine St.loadS h ?_) | (with_reducible refine a_fld0 ?_) | (with_reducible refine St.store h fun W h => ?_) | (with_reducible refine St.storeS h fun W h => ?_) | (with_reducible refine St.alloc h fun b W h => ?_) | (with_reducible refine St.allocS h fun b W h => ?_) | (with_reducible refine a_nil ?_) | (with_reducible refine ss_load ?_) | (with_reducible refine ss_loadS ?_) | (with_reducible refine ss_eqb ?_)))
  refine allLvs_spec (v := mv) h (by rw [mpLenvs]; omega) fun f ba W hI h => ?_
  obtain ⟨gf, lb, rfl, _⟩ := id hI
  have hlen : ∀ x ∈ tellvs (mpvs rs), x.length = 2 := by
    intro x hx
    obtain ⟨p, _, rfl⟩ := List.mem_map.1 hx
    rfl
  have hcb := countR_bd hb.2
  rw [rwLenvs] at hcb
  have hcb2 : rs.length * n ≤ 500000 * 500000 := Nat.mul_le_mul (by omega) (by omega)
  refine rngH (C := PrCvs bs b2 b3 b mv low' rs kp) (fun c i => As.all False []) hI (PrC0vs bs b2 b3 b mv low' rs kp) (fun J W h => prInvs h) (fun J W h => prOutvs h) hlen (l := R) ?_ ?_ ?_ ?_
  · have h0 : St w0 G (Ky mv (Mpvs (mpvs rs)) :: (PrLvs bs b2 b3 b mv low' 0 kp ++ Ky (.func (.func gf) #[] lb : Value) (ItLvs ba mv) :: R)) W := by
      simp only [List.cons_append, List.nil_append]
      exact h.to
    exact prOutvs (St.swap (St.shutE kp (St.shutA (L := PrLvs bs b2 b3 b mv low' 0 kp) ⟨hk, fun z hz => hz⟩ (St.behind h0))))
  · intro i x hxi ll rec I' W kn kst h hn' hks
    obtain ⟨r, hri, rfl⟩ := mpAtvs hxi
    refine app2 ?_
    refine ⟨h.ob (b := ll), ?_⟩
    replace h := h.putO (b := ll) (o := .loop (rec .ready none)) (.loop (rec .busy none))
    generalize W.putObj ll (.loop (rec .busy none)) = Wb at *
    obtain ⟨⟨kp1, rs1⟩, h⟩ := St.openE (show St w0 G (As.ex _ :: _) Wb from h.swap)
    obtain ⟨⟨h1, h2, h3⟩, h⟩ := St.openA h
    have hil := (List.getElem?_eq_some_iff.1 hri)
    have hdrop : rs.drop i = r :: rs.drop (i + 1) := by rw [List.drop_eq_getElem_cons hil.1, hil.2]
    have hrl : (rwvs rs)[i]? = some (r.1, r.2.2) := mapV_at _ hri
    simp only [List.cons_append, List.nil_append] at h
    simp only at h1 h2 h3
    rw [hdrop] at h h1
    have hrn : r.2.2.length ≤ n := hb.2 _ (List.mem_of_getElem? hrl)
    have hmem : (r.2.1.v, r.2.2) ∈ kp1 := h1 r (by simp)
    have hst := lostR_stepvs (low' := low') hrl
    have hlb : lostR low' (rwvs rs) (i + 1) ≤ countR (rwvs rs) := by
      unfold lostR
      have := countR_append ((rwvs rs).take (i + 1)) ((rwvs rs).drop (i + 1))
      rw [List.take_append_drop] at this
      omega
    simp only at hst
    have hpl := prunedC_len r.2.2 low'
    refine app5 ?_
    refine h.load ?_
    refine prunedvs_spec (h.kqGet PoolK.a hmem) rfl (by omega) fun v' W2 o' h' => ?_
    replace h := h.frame1 h'
    clear h'
    refine h.load ?_
    refine x_lenS (h.kqGet PoolK.a hmem) ?_
    refine x_lenS (h.osl (v := v')) ?_
    refine a_sub64 (by omega) (by omega) (a_add64 (by omega) (by omega) ?_)
    have e1 : ((lostR low' (rwvs rs) i : Nat) : Int) + ((r.2.2.length : Int) - ((prunedC r.2.2 low').length : Int)) = (lostR low' (rwvs rs) (i + 1) : Nat) := by rw [hst]; omega
    rw [e1]
    refine h.store fun W h => ?_
    refine jni (fun vs W' => St w0 G (Ky ll (Ob (.loop (rec .busy none))) :: Ky (i + 1) (PrCvs bs b2 b3 b mv low' rs kp) :: I') W') (fun _ W' _ h => hn' W' h) ?_
    refine x_lenS (h.osl (v := v')) ?_
    have hsrt : Srt (mpvs (rs1 ++ r :: rs.drop (i + 1))) := (h.freeze (v := mv)).choose_spec.choose_spec.2.1
    rw [mpMidvs] at hsrt
    have hl2 : (mpvs (rs1 ++ r :: rs.drop (i + 1))).length ≤ 1000000 := by
      have a1 : (rwvs rs1).length ≤ ((rwvs rs).take i).length := by rw [h3]; exact List.length_filterMap_le _ _
      rw [rwLenvs, List.length_take, rwLenvs] at a1
      rw [mpLenvs, List.length_append, List.length_cons, List.length_drop]
      omega
    refine w_eql (ifd (fun hc => ?_) fun hc => ?_)
    · have e0 : prunedC r.2.2 low' = [] := List.eq_nil_of_length_eq_zero (by omega)
      (repeat (first | (with_reducible refine ift ?_) | (with_reducible refine iff' ?_) | (with_reducible refine a_lss ?_) | (with_reducible refine a_leq ?_) | (with_reducible refine a_gtr ?_) | (with_reducible refine a_geq ?_) | (with_reducible refine w_eql ?_) | (with_reducible refine w_neq ?_) | (with_reducible refine s_eql ?_) | (with_reducible refine s_neq ?_) | ((with_reducible refine a_add64 ?h0 ?h1 ?_); (case h0 => omega); (case h1 => omega);  skip) | ((with_reducible refine a_sub64 ?h0 ?h1 ?_); (case h0 => omega); (case h1 => omega);  skip) | ((with_reducible refine a_mul64 ?h0 ?h1 ?_); (case h0 => omega); (case h1 => omega);  skip) | (with_reducible refine a_notd ?_) | (with_reducible refine a_not ?_) | (with_reducible refine a_ext0 ?_) | (with_reducible refine a_ext1 ?_) | (with_reducible refine a_ext2 ?_) | (with_reducible refine x_len ?_) | (with_reducible refine x_lens ?_) | (with_reducible refine x_eqb ?_) | (with_reducible refine x_neb ?_) | (with_reducible refine x_nilP ?_) | (with_reducible refine x_nilPn ?_) | (with_reducible refine x_nilF ?_) | (with_reducible refine x_nilFF ?_) | (with_reducible refine w_eqlL ?_) | (with_reducible refine w_neqL ?_) | (with_reducible refine s_eqlL ?_) | (with_reducible refine ifnt ?_) | (with_reducible refine ifnf ?_) | (with_reducible refine x_eqB ?_) | (with_reducible refine x_neB ?_) | (with_reducible refine x_lssL ?_) | (with_reducible refine x_gtrL ?_) | (with_reducible refine x_geqL ?_) | (with_reducible refine s_neqL ?_) | (with_reducible refine St.load h ?_) | (with_reducible refine St.loadS h ?_) | (with_reducible refine a_fld0 ?_) | (with_reducible refine St.store h fun W h => ?_) | (with_reducible refine St.storeS h fun W h => ?_) | (with_reducible refine St.alloc h fun b W h => ?_) | (with_reducible refine St.allocS h fun b W h => ?_) | (with_reducible refine a_nil ?_) | (with_reducible refine ss_load ?_) | (with_reducible refine ss_loadS ?_) | (with_reducible refine ss_eqb ?_)))
      refine deletevs_spec (v := mv) h (k := r.1) hl2 fun W h => ?_
      rw [mpMidvs, delK_mid hsrt] at h
      have ep : prune1 low' (r.1, r.2.2) = none := by unfold prune1; rw [e0]; rfl
      refine St.swap (St.shutE (kp1, rs1) (St.shutA (L := Ky mv (Mpvs (mpvs (rs1 ++ rs.drop (i + 1)))) :: PrLvs bs b2 b3 b mv low' (lostR low' (rwvs rs) (i + 1)) kp1) ⟨?_, h2, ?_⟩ ?_))
      · intro q hq
        refine h1 q ?_
        exact (List.mem_append.1 hq).elim (fun h => List.mem_append.2 (.inl h)) fun h => List.mem_append.2 (.inr (List.mem_cons_of_mem _ h))
      · rw [takeFMvs hri, ep, h3]; simp
      · have em : mpvs (rs1 ++ rs.drop (i + 1)) = mpvs rs1 ++ mpvs (rs.drop (i + 1)) := by simp [mpvs, mapV]
        rw [em]
        simp only [List.cons_append, List.nil_append]
        exact h.to
    · have e0 : (prunedC r.2.2 low').isEmpty = false := by
        cases h : prunedC r.2.2 low' with
        | nil => rw [h] at hc; simp at hc
        | cons a b => rfl
      (repeat (first | (with_reducible refine ift ?_) | (with_reducible refine iff' ?_) | (with_reducible refine a_lss ?_) | (with_reducible refine a_leq ?_) | (with_reducible refine a_gtr ?_) | (with_reducible refine a_geq ?_) | (with_reducible refine w_eql ?_) | (with_reducible refine w_neq ?_) | (with_reducible refine s_eql ?_) | (with_reducible refine s_neq ?_) | ((with_reducible refine a_add64 ?h0 ?h1 ?_); (case h0 => omega); (case h1 => omega);  skip) | ((with_reducible refine a_sub64 ?h0 ?h1 ?_); (case h0 => omega); (case h1 => omega);  skip) | ((with_reducible refine a_mul64 ?h0 ?h1 ?_); (case h0 => omega); (case h1 => omega);  skip) | (with_reducible refine a_notd ?_) | (with_reducible refine a_not ?_) | (with_reducible refine a_ext0 ?_) | (with_reducible refine a_ext1 ?_) | (with_reducible refine a_ext2 ?_) | (with_reducible refine x_len ?_) | (with_reducible refine x_lens ?_) | (with_reducible refine x_eqb ?_) | (with_reducible refine x_neb ?_) | (with_reducible refine x_nilP ?_) | (with_reducible refine x_nilPn ?_) | (with_reducible refine x_nilF ?_) | (with_reducible refine x_nilFF ?_) | (with_reducible refine w_eqlL ?_) | (with_reducible refine w_neqL ?_) | (with_reducible refine s_eqlL ?_) | (with_reducible refine ifnt ?_) | (with_reducible refine ifnf ?_) | (with_reducible refine x_eqB ?_) | (with_reducible refine x_neB ?_) | (with_reducible refine x_lssL ?_) | (with_reducible refine x_gtrL ?_) | (with_reducible refine x_geqL ?_) | (with_reducible refine s_neqL ?_) | (with_reducible refine St.load h ?_) | (with_reducible refine St.loadS h ?_) | (with_reducible refine a_fld0 ?_) | (with_reducible refine St.store h fun W h => ?_) | (with_reducible refine St.storeS h fun W h => ?_) | (with_reducible refine St.alloc h fun b W h => ?_) | (with_reducible refine St.allocS h fun b W h => ?_) | (with_reducible refine a_nil ?_) | (with_reducible refine ss_load ?_) | (with_reducible refine ss_loadS ?_) | (with_reducible refine ss_eqb ?_)))
      refine putvs_spec (v := mv) h (k := r.1) (x := ⟨v', o'.one⟩) hl2 fun W h => ?_
      rw [mpMidvs, putK_mid hsrt] at h
      replace h := h.kqAdd PoolK.a (v := v') (f := verCvs) (xs := prunedC r.2.2 low') rfl rfl
      have ep : prune1 low' (r.1, r.2.2) = some (r.1, prunedC r.2.2 low') := by unfold prune1; rw [e0]; rfl
      have q1 : Invs ((v', prunedC r.2.2 low') :: kp1) (rs1 ++ [(r.1, ⟨v', o'.one⟩, prunedC r.2.2 low')] ++ rs.drop (i + 1)) := by
        intro q hq
        simp only [List.mem_append, List.mem_cons, List.not_mem_nil, or_false] at hq
        rcases hq with (hq | rfl) | hq
        · exact List.mem_cons_of_mem _ (h1 q (by simp [hq]))
        · exact List.mem_cons_self
        · exact List.mem_cons_of_mem _ (h1 q (by simp [hq]))
      have q3 : rwvs (rs1 ++ [(r.1, ⟨v', o'.one⟩, prunedC r.2.2 low')]) = ((rwvs rs).take (i + 1)).filterMap (prune1 low') := by
        rw [takeFMvs hri, ep, ← h3]; simp [rwvs, mapV]
      refine St.swap (St.shutE ((v', prunedC r.2.2 low') :: kp1, rs1 ++ [(r.1, ⟨v', o'.one⟩, prunedC r.2.2 low')]) (St.shutA (L := Ky mv (Mpvs (mpvs (rs1 ++ [(r.1, ⟨v', o'.one⟩, prunedC r.2.2 low')] ++ rs.drop (i + 1)))) :: PrLvs bs b2 b3 b mv low' (lostR low' (rwvs rs) (i + 1)) ((v', prunedC r.2.2 low') :: kp1)) ⟨q1, fun z hz => List.mem_cons_of_mem _ (h2 z hz), q3⟩ ?_))
      · have em : mpvs (rs1 ++ [(r.1, ⟨v', o'.one⟩, prunedC r.2.2 low')] ++ rs.drop (i + 1)) = mpvs rs1 ++ (r.1, ⟨v', o'.one⟩) :: mpvs (rs.drop (i + 1)) := by simp [mpvs, mapV]
        rw [em]
        simp only [List.cons_append, List.nil_append]
        exact h.to
  · intro DD W h
    rw [List.length_map, mpLenvs] at h
    obtain ⟨⟨kp1, rs1⟩, h⟩ := St.openE (show St w0 G (As.ex _ :: _) W from h.swap)
    obtain ⟨⟨h1, h2, h3⟩, h⟩ := St.openA h
    simp only [List.cons_append, List.nil_append] at h
    simp only at h1 h2 h3
    rw [List.drop_length, List.append_nil] at h h1
    rw [← rwLenvs] at h h3
    rw [List.take_length] at h3
    (repeat (first | (with_reducible refine ift ?_) | (with_reducible refine iff' ?_) | (with_reducible refine a_lss ?_) | (with_reducible refine a_leq ?_) | (with_reducible refine a_gtr ?_) | (with_reducible refine a_geq ?_) | (with_reducible refine w_eql ?_) | (with_reducible refine w_neq ?_) | (with_reducible refine s_eql ?_) | (with_reducible refine s_neq ?_) | ((with_reducible refine a_add64 ?h0 ?h1 ?_); (case h0 => omega); (case h1 => omega);  skip) | ((with_reducible refine a_sub64 ?h0 ?h1 ?_); (case h0 => omega); (case h1 => omega);  skip) | ((with_reducible refine a_mul64 ?h0 ?h1 ?_); (case h0 => omega); (case h1 => omega);  skip) | (with_reducible refine a_notd ?_) | (with_reducible refine a_not ?_) | (with_reducible refine a_ext0 ?_) | (with_reducible refine a_ext1 ?_) | (with_reducible refine a_ext2 ?_) | (with_reducible refine x_len ?_) | (with_reducible refine x_lens ?_) | (with_reducible refine x_eqb ?_) | (with_reducible refine x_neb ?_) | (with_reducible refine x_nilP ?_) | (with_reducible refine x_nilPn ?_) | (with_reducible refine x_nilF ?_) | (with_reducible refine x_nilFF ?_) | (with_reducible refine w_eqlL ?_) | (with_reducible refine w_neqL ?_) | (with_reducible refine s_eqlL ?_) | (with_reducible refine ifnt ?_) | (with_reducible refine ifnf ?_) | (with_reducible refine x_eqB ?_) | (with_reducible refine x_neB ?_) | (with_reducible refine x_lssL ?_) | (with_reducible refine x_gtrL ?_) | (with_reducible refine x_geqL ?_) | (with_reducible refine s_neqL ?_) | (with_reducible refine St.load h ?_) | (with_reducible refine St.loadS h ?_) | (with_reducible refine a_fld0 ?_) | (with_reducible refine St.store h fun W h => ?_) | (with_reducible refine St.storeS h fun W h => ?_) | (with_reducible refine St.alloc h fun b W h => ?_) | (with_reducible refine St.allocS h fun b W h => ?_) | (with_reducible refine a_nil ?_) | (with_reducible refine ss_load ?_) | (with_reducible refine ss_loadS ?_) | (with_reducible refine ss_eqb ?_)))
    refine ⟨h.ob (b := DD), ?_⟩
    replace h := h.putO (b := DD) (o := .deferred (some [])) (.deferred none)
    have el : lostR low' (rwvs rs) (rwvs rs).length = countR (rwvs rs) - countR ((rwvs rs).filterMap (prune1 low')) := by
      unfold lostR
      rw [List.take_length]
    rw [el]
    exact k kp1 rs1 _ h1 h2 h3 (h.shutVvs (b := bs) (mv := mv) rfl).to
  · intro DD c i W hi h
    exact (St.openA h.swap).1.elim
end
end Go.Proofs.Ytffnabbchghokaa
