/-
  VERSIONS: the document's store: versions added, pruned; chains held against one another: what each function answers.
-/
import Derived.Test.YtffnabbchghokaaVerX
namespace Go.Proofs.Ytffnabbchghokaa
open Go Go.Ez Go.RowKit
set_option linter.unusedSimpArgs false
set_option linter.unusedVariables false

section
variable {w0 W W' : World} {G : Nat → Prop} {l R R1 : List As} {rs : Rsvs} {low : Int} {v : Value} {RR : Value → World → Prop} {kp : List (Value × List (Ver Txt))} {key : Txt}
theorem inXput {x : OneV} {c : List (Ver Txt)} (hk : InX kp rs) : InX ((x.v, c) :: kp) (putK key (x, c) rs) := by
  intro r hr
  rcases mem_putK hr with rfl | hr
  · exact ⟨(x.v, c), List.mem_cons_self, 0, Nat.zero_le _, rfl, rfl⟩
  · obtain ⟨z, hz, r⟩ := hk r hr
    exact ⟨z, List.mem_cons_of_mem _ hz, r⟩
theorem putK_fresh {κ β : Type} [OKey κ] [DecidableEq κ] {k : κ} {m : List (κ × β)} (x y : β) (h : hasK k m = false) : (m.take (posK k m) ++ (k, y) :: m.drop (posK k m)).set (posK k m) (k, x) = putK k x m := by
  unfold putK
  rw [h, if_neg (by simp)]
  have hp := posK_le k m
  have : (m.take (posK k m)).length = posK k m := by rw [List.length_take]; omega
  rw [List.set_append_right _ _ (by omega), this]
  simp

set_option maxHeartbeats 1000000 in
/-- add -/
theorem xadd_spec {n : Nat} {ver : Ver Txt} [i : Has l PoolK.c (PlX kp) R1] [j : Has R1 v (Xs rs low) R] (h : St w0 G l W) (hk : InX kp rs) (hb : Bd n (rwvs rs)) (hn : n ≤ 500000)
    (k : ∀ kp' rs' W', InX kp' rs' → rwvs rs' = (addR (rwvs rs) low key ver).2 → St w0 G (Ky v (Xs rs' low) :: Ky PoolK.c (PlX kp') :: R) W' → RR (.int .i64 (addR (rwvs rs) low key ver).1) W') :
    CallF Try.prog 86 #[v, strV key, .agg (verCvs ver).toArray] W RR := by
  refine sh86_calls ?_
  unfold sh86
  have h : St w0 G (Ky v (Xs rs low) :: Ky PoolK.c (PlX kp) :: R) W := by
    obtain ⟨F, hF, hG⟩ := h.own
    exact { h with own := ⟨F, sepL_swap (sepL_mono j.to (i.to F W hF)), hG⟩ }
  obtain ⟨t, val, gone⟩ := ver
  refine h.boxS (cs := [.int .i64 t, strV val, .bool gone]) fun b5 W h => ?_
  have kU : ∀ W', (addR (rwvs rs) low key (t, val, gone)).2 = rwvs rs → St w0 G (Ky v (Xs rs low) :: Ky PoolK.c (PlX kp) :: R) W' → RR (.int .i64 (addR (rwvs rs) low key (t, val, gone)).1) W' := fun W' e h => k kp rs W' hk e.symm h
  (repeat (first | (with_reducible refine ift ?_) | (with_reducible refine iff' ?_) | (with_reducible refine a_lss ?_) | (with_reducible refine a_leq ?_) | (with_reducible refine a_gtr ?_) | (with_reducible refine a_geq ?_) | (with_reducible refine w_eql ?_) | (with_reducible refine w_neq ?_) | (with_reducible refine s_eql ?_) | (with_reducible refine s_neq ?_) | ((with_reducible refine a_add64 ?h0 ?h1 ?_); (case h0 => omega); (case h1 => omega);  skip) | ((with_reducible refine a_sub64 ?h0 ?h1 ?_); (case h0 => omega); (case h1 => omega);  skip) | ((with_reducible refine a_mul64 ?h0 ?h1 ?_); (case h0 => omega); (case h1 => omega);  skip) | (with_reducible refine a_notd ?_) | (with_reducible refine a_not ?_) | (with_reducible refine a_ext0 ?_) | (with_reducible refine a_ext1 ?_) | (with_reducible refine a_ext2 ?_) | (with_reducible refine x_len ?_) | (with_reducible refine x_lens ?_) | (with_reducible refine x_eqb ?_) | (with_reducible refine x_neb ?_) | (with_reducible refine x_nilP ?_) | (with_reducible refine x_nilPn ?_) | (with_reducible refine x_nilF ?_) | (with_reducible refine x_nilFF ?_) | (with_reducible refine w_eqlL ?_) | (with_reducible refine w_neqL ?_) | (with_reducible refine s_eqlL ?_) | (with_reducible refine ifnt ?_) | (with_reducible refine ifnf ?_) | (with_reducible refine x_eqB ?_) | (with_reducible refine x_neB ?_) | (with_reducible refine x_lssL ?_) | (with_reducible refine x_gtrL ?_) | (with_reducible refine x_geqL ?_) | (with_reducible refine s_neqL ?_) | (with_reducible refine St.load h ?_) | (with_reducible refine St.loadS h ?_) | (with_reducible refine a_fld0 ?_) | (with_reducible refine St.store h fun W h => ?_) | (with_reducible refine St.storeS h fun W h => ?_) | (with_reducible refine St.alloc h fun b W h => ?_) | (with_reducible refine St.allocS h fun b W h => ?_) | (with_reducible refine a_nil ?_) | (with_reducible refine ss_load ?_) | (with_reducible refine ss_loadS ?_) | (with_reducible refine ss_eqb ?_)))
  refine ifd (fun hc => ?_) fun hc => ?_
  · have e : addR (rwvs rs) low key (t, val, gone) = (1, rwvs rs) := by unfold addR; rw [if_pos (.inl hc)]
    have := kU W (by rw [e]) h.to
    rw [e] at this; exact this
  (repeat (first | (with_reducible refine ift ?_) | (with_reducible refine iff' ?_) | (with_reducible refine a_lss ?_) | (with_reducible refine a_leq ?_) | (with_reducible refine a_gtr ?_) | (with_reducible refine a_geq ?_) | (with_reducible refine w_eql ?_) | (with_reducible refine w_neq ?_) | (with_reducible refine s_eql ?_) | (with_reducible refine s_neq ?_) | ((with_reducible refine a_add64 ?h0 ?h1 ?_); (case h0 => omega); (case h1 => omega);  skip) | ((with_reducible refine a_sub64 ?h0 ?h1 ?_); (case h0 => omega); (case h1 => omega);  skip) | ((with_reducible refine a_mul64 ?h0 ?h1 ?_); (case h0 => omega); (case h1 => omega);  skip) | (with_reducible refine a_notd ?_) | (with_reducible refine a_not ?_) | (with_reducible refine a_ext0 ?_) | (with_reducible refine a_ext1 ?_) | (with_reducible refine a_ext2 ?_) | (with_reducible refine x_len ?_) | (with_reducible refine x_lens ?_) | (with_reducible refine x_eqb ?_) | (with_reducible refine x_neb ?_) | (with_reducible refine x_nilP ?_) | (with_reducible refine x_nilPn ?_) | (with_reducible refine x_nilF ?_) | (with_reducible refine x_nilFF ?_) | (with_reducible refine w_eqlL ?_) | (with_reducible refine w_neqL ?_) | (with_reducible refine s_eqlL ?_) | (with_reducible refine ifnt ?_) | (with_reducible refine ifnf ?_) | (with_reducible refine x_eqB ?_) | (with_reducible refine x_neB ?_) | (with_reducible refine x_lssL ?_) | (with_reducible refine x_gtrL ?_) | (with_reducible refine x_geqL ?_) | (with_reducible refine s_neqL ?_) | (with_reducible refine St.load h ?_) | (with_reducible refine St.loadS h ?_) | (with_reducible refine a_fld0 ?_) | (with_reducible refine St.store h fun W h => ?_) | (with_reducible refine St.storeS h fun W h => ?_) | (with_reducible refine St.alloc h fun b W h => ?_) | (with_reducible refine St.allocS h fun b W h => ?_) | (with_reducible refine a_nil ?_) | (with_reducible refine ss_load ?_) | (with_reducible refine ss_loadS ?_) | (with_reducible refine ss_eqb ?_)))
  refine ifd (fun hc2 => ?_) fun hc2 => ?_
  · have e : addR (rwvs rs) low key (t, val, gone) = (1, rwvs rs) := by unfold addR; rw [if_pos (.inr hc2)]
    have := kU W (by rw [e]) h.to
    rw [e] at this; exact this
  have e0 : ¬ (t < 1 ∨ t > 1099511627776) := fun hx => hx.elim hc hc2
  replace h := h.drew
  refine ⟨St w0 G _, h, ?_⟩
  (repeat (first | (with_reducible refine ift ?_) | (with_reducible refine iff' ?_) | (with_reducible refine a_lss ?_) | (with_reducible refine a_leq ?_) | (with_reducible refine a_gtr ?_) | (with_reducible refine a_geq ?_) | (with_reducible refine w_eql ?_) | (with_reducible refine w_neq ?_) | (with_reducible refine s_eql ?_) | (with_reducible refine s_neq ?_) | ((with_reducible refine a_add64 ?h0 ?h1 ?_); (case h0 => omega); (case h1 => omega);  skip) | ((with_reducible refine a_sub64 ?h0 ?h1 ?_); (case h0 => omega); (case h1 => omega);  skip) | ((with_reducible refine a_mul64 ?h0 ?h1 ?_); (case h0 => omega); (case h1 => omega);  skip) | (with_reducible refine a_notd ?_) | (with_reducible refine a_not ?_) | (with_reducible refine a_ext0 ?_) | (with_reducible refine a_ext1 ?_) | (with_reducible refine a_ext2 ?_) | (with_reducible refine x_len ?_) | (with_reducible refine x_lens ?_) | (with_reducible refine x_eqb ?_) | (with_reducible refine x_neb ?_) | (with_reducible refine x_nilP ?_) | (with_reducible refine x_nilPn ?_) | (with_reducible refine x_nilF ?_) | (with_reducible refine x_nilFF ?_) | (with_reducible refine w_eqlL ?_) | (with_reducible refine w_neqL ?_) | (with_reducible refine s_eqlL ?_) | (with_reducible refine ifnt ?_) | (with_reducible refine ifnf ?_) | (with_reducible refine x_eqB ?_) | (with_reducible refine x_neB ?_) | (with_reducible refine x_lssL ?_) | (with_reducible refine x_gtrL ?_) | (with_reducible refine x_geqL ?_) | (with_reducible refine s_neqL ?_) | (with_reducible refine St.load h ?_) | (with_reducible refine St.loadS h ?_) | (with_reducible refine a_fld0 ?_) | (with_reducible refine St.store h fun W h => ?_) | (with_reducible refine St.storeS h fun W h => ?_) | (with_reducible refine St.alloc h fun b W h => ?_) | (with_reducible refine St.allocS h fun b W h => ?_) | (with_reducible refine a_nil ?_) | (with_reducible refine ss_load ?_) | (with_reducible refine ss_loadS ?_) | (with_reducible refine ss_eqb ?_)))
  have hz : XsZ rs low W.drew v := freezeX (kp := kp) h hk
  refine xlast_spec hz hb (by omega) fun W1 hb1 => ?_
  replace h := h.ext hb1
  refine ⟨h, ?_⟩
  (repeat (first | (with_reducible refine ift ?_) | (with_reducible refine iff' ?_) | (with_reducible refine a_lss ?_) | (with_reducible refine a_leq ?_) | (with_reducible refine a_gtr ?_) | (with_reducible refine a_geq ?_) | (with_reducible refine w_eql ?_) | (with_reducible refine w_neq ?_) | (with_reducible refine s_eql ?_) | (with_reducible refine s_neq ?_) | ((with_reducible refine a_add64 ?h0 ?h1 ?_); (case h0 => omega); (case h1 => omega);  skip) | ((with_reducible refine a_sub64 ?h0 ?h1 ?_); (case h0 => omega); (case h1 => omega);  skip) | ((with_reducible refine a_mul64 ?h0 ?h1 ?_); (case h0 => omega); (case h1 => omega);  skip) | (with_reducible refine a_notd ?_) | (with_reducible refine a_not ?_) | (with_reducible refine a_ext0 ?_) | (with_reducible refine a_ext1 ?_) | (with_reducible refine a_ext2 ?_) | (with_reducible refine x_len ?_) | (with_reducible refine x_lens ?_) | (with_reducible refine x_eqb ?_) | (with_reducible refine x_neb ?_) | (with_reducible refine x_nilP ?_) | (with_reducible refine x_nilPn ?_) | (with_reducible refine x_nilF ?_) | (with_reducible refine x_nilFF ?_) | (with_reducible refine w_eqlL ?_) | (with_reducible refine w_neqL ?_) | (with_reducible refine s_eqlL ?_) | (with_reducible refine ifnt ?_) | (with_reducible refine ifnf ?_) | (with_reducible refine x_eqB ?_) | (with_reducible refine x_neB ?_) | (with_reducible refine x_lssL ?_) | (with_reducible refine x_gtrL ?_) | (with_reducible refine x_geqL ?_) | (with_reducible refine s_neqL ?_) | (with_reducible refine St.load h ?_) | (with_reducible refine St.loadS h ?_) | (with_reducible refine a_fld0 ?_) | (with_reducible refine St.store h fun W h => ?_) | (with_reducible refine St.storeS h fun W h => ?_) | (with_reducible refine St.alloc h fun b W h => ?_) | (with_reducible refine St.allocS h fun b W h => ?_) | (with_reducible refine a_nil ?_) | (with_reducible refine ss_load ?_) | (with_reducible refine ss_loadS ?_) | (with_reducible refine ss_eqb ?_)))
  refine ifd (fun hc3 => ?_) fun hc3 => ?_
  · have e : addR (rwvs rs) low key (t, val, gone) = (12, rwvs rs) := by unfold addR; rw [if_neg e0, if_pos (.inl hc3)]
    have := kU W1 (by rw [e]) h.to
    rw [e] at this; exact this
  replace hz := hz.below hb1
  have hz0 := hz
  obtain ⟨b, sl, rfl, hs, hr, hsl, hcs⟩ := hz
  (repeat (first | (with_reducible refine ift ?_) | (with_reducible refine iff' ?_) | (with_reducible refine a_lss ?_) | (with_reducible refine a_leq ?_) | (with_reducible refine a_gtr ?_) | (with_reducible refine a_geq ?_) | (with_reducible refine w_eql ?_) | (with_reducible refine w_neq ?_) | (with_reducible refine s_eql ?_) | (with_reducible refine s_neq ?_) | ((with_reducible refine a_add64 ?h0 ?h1 ?_); (case h0 => omega); (case h1 => omega);  skip) | ((with_reducible refine a_sub64 ?h0 ?h1 ?_); (case h0 => omega); (case h1 => omega);  skip) | ((with_reducible refine a_mul64 ?h0 ?h1 ?_); (case h0 => omega); (case h1 => omega);  skip) | (with_reducible refine a_notd ?_) | (with_reducible refine a_not ?_) | (with_reducible refine a_ext0 ?_) | (with_reducible refine a_ext1 ?_) | (with_reducible refine a_ext2 ?_) | (with_reducible refine x_len ?_) | (with_reducible refine x_lens ?_) | (with_reducible refine x_eqb ?_) | (with_reducible refine x_neb ?_) | (with_reducible refine x_nilP ?_) | (with_reducible refine x_nilPn ?_) | (with_reducible refine x_nilF ?_) | (with_reducible refine x_nilFF ?_) | (with_reducible refine w_eqlL ?_) | (with_reducible refine w_neqL ?_) | (with_reducible refine s_eqlL ?_) | (with_reducible refine ifnt ?_) | (with_reducible refine ifnf ?_) | (with_reducible refine x_eqB ?_) | (with_reducible refine x_neB ?_) | (with_reducible refine x_lssL ?_) | (with_reducible refine x_gtrL ?_) | (with_reducible refine x_geqL ?_) | (with_reducible refine s_neqL ?_) | (with_reducible refine St.load h ?_) | (with_reducible refine St.loadS h ?_) | (with_reducible refine a_fld0 ?_) | (with_reducible refine St.store h fun W h => ?_) | (with_reducible refine St.storeS h fun W h => ?_) | (with_reducible refine St.alloc h fun b W h => ?_) | (with_reducible refine St.allocS h fun b W h => ?_) | (with_reducible refine a_nil ?_) | (with_reducible refine ss_load ?_) | (with_reducible refine ss_loadS ?_) | (with_reducible refine ss_eqb ?_)))
  refine s_of (v := .int .i64 low) (fun w hw => ?_) ?_
  · obtain ⟨b', sl', e', _, _, hw2⟩ := openX (v := (.pointer (some ⟨b, 0, none⟩) : Value)) hw
    cases e'
    exact hw2.load rfl
  (repeat (first | (with_reducible refine ift ?_) | (with_reducible refine iff' ?_) | (with_reducible refine a_lss ?_) | (with_reducible refine a_leq ?_) | (with_reducible refine a_gtr ?_) | (with_reducible refine a_geq ?_) | (with_reducible refine w_eql ?_) | (with_reducible refine w_neq ?_) | (with_reducible refine s_eql ?_) | (with_reducible refine s_neq ?_) | ((with_reducible refine a_add64 ?h0 ?h1 ?_); (case h0 => omega); (case h1 => omega);  skip) | ((with_reducible refine a_sub64 ?h0 ?h1 ?_); (case h0 => omega); (case h1 => omega);  skip) | ((with_reducible refine a_mul64 ?h0 ?h1 ?_); (case h0 => omega); (case h1 => omega);  skip) | (with_reducible refine a_notd ?_) | (with_reducible refine a_not ?_) | (with_reducible refine a_ext0 ?_) | (with_reducible refine a_ext1 ?_) | (with_reducible refine a_ext2 ?_) | (with_reducible refine x_len ?_) | (with_reducible refine x_lens ?_) | (with_reducible refine x_eqb ?_) | (with_reducible refine x_neb ?_) | (with_reducible refine x_nilP ?_) | (with_reducible refine x_nilPn ?_) | (with_reducible refine x_nilF ?_) | (with_reducible refine x_nilFF ?_) | (with_reducible refine w_eqlL ?_) | (with_reducible refine w_neqL ?_) | (with_reducible refine s_eqlL ?_) | (with_reducible refine ifnt ?_) | (with_reducible refine ifnf ?_) | (with_reducible refine x_eqB ?_) | (with_reducible refine x_neB ?_) | (with_reducible refine x_lssL ?_) | (with_reducible refine x_gtrL ?_) | (with_reducible refine x_geqL ?_) | (with_reducible refine s_neqL ?_) | (with_reducible refine St.load h ?_) | (with_reducible refine St.loadS h ?_) | (with_reducible refine a_fld0 ?_) | (with_reducible refine St.store h fun W h => ?_) | (with_reducible refine St.storeS h fun W h => ?_) | (with_reducible refine St.alloc h fun b W h => ?_) | (with_reducible refine St.allocS h fun b W h => ?_) | (with_reducible refine a_nil ?_) | (with_reducible refine ss_load ?_) | (with_reducible refine ss_loadS ?_) | (with_reducible refine ss_eqb ?_)))
  refine ifd (fun hc4 => ?_) fun hc4 => ?_
  · have e : addR (rwvs rs) low key (t, val, gone) = (12, rwvs rs) := by unfold addR; rw [if_neg e0, if_pos (.inr hc4)]
    have := kU W1 (by rw [e]) h.to
    rw [e] at this; exact this
  have e : addR (rwvs rs) low key (t, val, gone) = (0, putK key (chainR (rwvs rs) key ++ [(t, val, gone)]) (rwvs rs)) := by
    unfold addR; rw [if_neg e0, if_neg fun hx => hx.elim hc3 hc4]
  have hl1 := hb.1
  rw [rwLenvs] at hl1
  have hcl := hb.chain key
  have hp := posK_le key rs
  refine xfind_spec (key := key) hz0 (by omega) fun W2 hb2 => ?_
  replace h := h.ext hb2
  have hch := hk.ch h
  obtain ⟨b', sl', e', _, osl, h⟩ := openX (v := (.pointer (some ⟨b, 0, none⟩) : Value)) h
  cases e'
  obtain ⟨c1, c2⟩ := chainR_hasX (key := key) hs
  have mpos : posK key (mpvs rs) = posK key rs := mapV_pos _ _ _
  have mhas : hasK key (mpvs rs) = hasK key rs := mapV_has _ _ _
  have mlen := mpLenvs rs
  refine a_ext0 (a_ext1 ?_)
  refine jni (fun vs W' => vs = [.pointer (some ⟨b, 0, none⟩), .pointer (some ⟨b5, 0, none⟩), nV .i64 (posK key rs)] ∧ ∃ sl1 m1 ov, m1[posK key rs]? = some (key, ov) ∧ (∀ x, m1.set (posK key rs) (key, x) = putK key x (mpvs rs)) ∧ m1.length ≤ rs.length + 1 ∧ Sl W' 3 (OneV.v ov) (chainR (rwvs rs) key).length (chCvs (chainR (rwvs rs) key)) ∧ Cel1 sl1 ∧
    St w0 G (Ky b (Ob (.cells [sl1, .int .i64 low].toArray 63 (0, 0))) :: Ky sl1 (Ow 130 2 m1.length (pcells m1)) :: Ky b5 (Ob (.cells [.int .i64 t, strV val, .bool gone].toArray 128 (0, 0))) :: Ky PoolK.c (PlX kp) :: R) W') ?_ ?_
  · rintro vs W3 _ ⟨rfl, sl1, m1, ov, hm1, hset, hml, hsv, osl1, h⟩
    refine app3 ?_
    have hil := (List.getElem?_eq_some_iff.1 hm1).1
    refine jni (fun vs W' => RR (.int .i64 0) W') (fun _ _ _ h => h) ?_
    replace h := h.drew
    replace hsv := hsv.below ((Below.refl _ _).drew)
    refine ⟨St w0 G _, h, ?_⟩
    have fin : ∀ W v2, Cel1 v2 → St w0 G (Ky v2 (Ow 128 3 ((chainR (rwvs rs) key).length + 1) (chCvs (chainR (rwvs rs) key) ++ [.int .i64 t, strV val, .bool gone])) :: Ky b (Ob (.cells [sl1, .int .i64 low].toArray 63 (0, 0))) :: Ky sl1 (Ow 130 2 m1.length (pcells m1)) :: Ky b5 (Ob (.cells [.int .i64 t, strV val, .bool gone].toArray 128 (0, 0))) :: Ky PoolK.c (PlX kp) :: R) W →
        RunA Try.prog (Instr.indexAt 61 sl1 (nV .i64 (posK key rs))) fun q => RunA Try.prog (Instr.fieldAt 130 q 1) fun q2 => RunU Try.prog (Instr.storeAt 65 q2 v2) W fun W' => RR (.int .i64 0) W' := by
      intro W v2 o2 h
      refine h.setI (v := sl1) hil fun g cap hslv _ => ?_
      subst hslv
      refine a_fld ?_
      refine h.storeI (n := m1.length) (cap := cap) (sz := 2) (q := posK key rs * 2 + 1) (by omega) fun W h => ?_
      have e1 : (pcells m1).set (posK key rs * 2 + 1) v2 = pcells (m1.set (posK key rs) (key, (⟨v2, o2.one⟩ : OneV))) := (pcells_set (v := (⟨v2, o2.one⟩ : OneV)) hm1).symm
      rw [e1, hset] at h
      have e2 : putK key (⟨v2, o2.one⟩ : OneV) (mpvs rs) = mpvs (putK key (⟨v2, o2.one⟩, chainR (rwvs rs) key ++ [(t, val, gone)]) rs) := (mapV_put Prod.fst key ((⟨v2, o2.one⟩ : OneV), chainR (rwvs rs) key ++ [(t, val, gone)]) rs).symm
      have hln : m1.length = (putK key ((⟨v2, o2.one⟩ : OneV), chainR (rwvs rs) key ++ [(t, val, gone)]) rs).length := by
        have := congrArg List.length (hset ⟨v2, o2.one⟩)
        rw [List.length_set, e2, mpLenvs] at this
        exact this
      have h2 := h.kqAdd PoolK.c (v := v2) (f := verCvs) (xs := chainR (rwvs rs) key ++ [(t, val, gone)]) (by simp) (by rw [rc_append, rc_single]; rfl)
      have h3 := shutX (b := b) (sl := .slice (some ⟨g, 0, none⟩) m1.length cap) (rs := putK key (⟨v2, o2.one⟩, chainR (rwvs rs) key ++ [(t, val, gone)]) rs) h2 (srt_put hs) hln (by rw [e2])
      have := k _ _ W (inXput (key := key) (x := ⟨v2, o2.one⟩) (c := chainR (rwvs rs) key ++ [(t, val, gone)]) hk) (by rw [e]; exact mapV_put ..) h3.to
      rw [e] at this
      exact this
    (repeat (first | (with_reducible refine ift ?_) | (with_reducible refine iff' ?_) | (with_reducible refine a_lss ?_) | (with_reducible refine a_leq ?_) | (with_reducible refine a_gtr ?_) | (with_reducible refine a_geq ?_) | (with_reducible refine w_eql ?_) | (with_reducible refine w_neq ?_) | (with_reducible refine s_eql ?_) | (with_reducible refine s_neq ?_) | ((with_reducible refine a_add64 ?h0 ?h1 ?_); (case h0 => omega); (case h1 => omega);  skip) | ((with_reducible refine a_sub64 ?h0 ?h1 ?_); (case h0 => omega); (case h1 => omega);  skip) | ((with_reducible refine a_mul64 ?h0 ?h1 ?_); (case h0 => omega); (case h1 => omega);  skip) | (with_reducible refine a_notd ?_) | (with_reducible refine a_not ?_) | (with_reducible refine a_ext0 ?_) | (with_reducible refine a_ext1 ?_) | (with_reducible refine a_ext2 ?_) | (with_reducible refine x_len ?_) | (with_reducible refine x_lens ?_) | (with_reducible refine x_eqb ?_) | (with_reducible refine x_neb ?_) | (with_reducible refine x_nilP ?_) | (with_reducible refine x_nilPn ?_) | (with_reducible refine x_nilF ?_) | (with_reducible refine x_nilFF ?_) | (with_reducible refine w_eqlL ?_) | (with_reducible refine w_neqL ?_) | (with_reducible refine s_eqlL ?_) | (with_reducible refine ifnt ?_) | (with_reducible refine ifnf ?_) | (with_reducible refine x_eqB ?_) | (with_reducible refine x_neB ?_) | (with_reducible refine x_lssL ?_) | (with_reducible refine x_gtrL ?_) | (with_reducible refine x_geqL ?_) | (with_reducible refine s_neqL ?_) | (with_reducible refine St.load h ?_) | (with_reducible refine St.loadS h ?_) | (with_reducible refine a_fld0 ?_) | (with_reducible refine St.store h fun W h => ?_) | (with_reducible refine St.storeS h fun W h => ?_) | (with_reducible refine St.alloc h fun b W h => ?_) | (with_reducible refine St.allocS h fun b W h => ?_) | (with_reducible refine a_nil ?_) | (with_reducible refine ss_load ?_) | (with_reducible refine ss_loadS ?_) | (with_reducible refine ss_eqb ?_)))
    refine x_sfld (h.osl (v := sl1)) (fun w hw => hw.osl (v := sl1)) hil (by decide) (pcells_get hm1).2 ?_
    (repeat (first | (with_reducible refine ift ?_) | (with_reducible refine iff' ?_) | (with_reducible refine a_lss ?_) | (with_reducible refine a_leq ?_) | (with_reducible refine a_gtr ?_) | (with_reducible refine a_geq ?_) | (with_reducible refine w_eql ?_) | (with_reducible refine w_neq ?_) | (with_reducible refine s_eql ?_) | (with_reducible refine s_neq ?_) | ((with_reducible refine a_add64 ?h0 ?h1 ?_); (case h0 => omega); (case h1 => omega);  skip) | ((with_reducible refine a_sub64 ?h0 ?h1 ?_); (case h0 => omega); (case h1 => omega);  skip) | ((with_reducible refine a_mul64 ?h0 ?h1 ?_); (case h0 => omega); (case h1 => omega);  skip) | (with_reducible refine a_notd ?_) | (with_reducible refine a_not ?_) | (with_reducible refine a_ext0 ?_) | (with_reducible refine a_ext1 ?_) | (with_reducible refine a_ext2 ?_) | (with_reducible refine x_len ?_) | (with_reducible refine x_lens ?_) | (with_reducible refine x_eqb ?_) | (with_reducible refine x_neb ?_) | (with_reducible refine x_nilP ?_) | (with_reducible refine x_nilPn ?_) | (with_reducible refine x_nilF ?_) | (with_reducible refine x_nilFF ?_) | (with_reducible refine w_eqlL ?_) | (with_reducible refine w_neqL ?_) | (with_reducible refine s_eqlL ?_) | (with_reducible refine ifnt ?_) | (with_reducible refine ifnf ?_) | (with_reducible refine x_eqB ?_) | (with_reducible refine x_neB ?_) | (with_reducible refine x_lssL ?_) | (with_reducible refine x_gtrL ?_) | (with_reducible refine x_geqL ?_) | (with_reducible refine s_neqL ?_) | (with_reducible refine St.load h ?_) | (with_reducible refine St.loadS h ?_) | (with_reducible refine a_fld0 ?_) | (with_reducible refine St.store h fun W h => ?_) | (with_reducible refine St.storeS h fun W h => ?_) | (with_reducible refine St.alloc h fun b W h => ?_) | (with_reducible refine St.allocS h fun b W h => ?_) | (with_reducible refine a_nil ?_) | (with_reducible refine ss_load ?_) | (with_reducible refine ss_loadS ?_) | (with_reducible refine ss_eqb ?_)))
    have one3 : ∀ c ∈ ([.int .i64 t, strV val, .bool gone] : List Value), c.oneCell' = true := by simp [Value.oneCell']
    refine ⟨?_, ?_, trivial⟩
    · refine h.litB (vs := []) (cs := []) (fun u1 W4 o1 m1' h => ?_) (by decide)
      replace hsv := hsv.below m1'
      refine ⟨h.to, ?_⟩
      refine ⟨?_, ?_, trivial⟩
      · refine St.app (v := u1) h hsv (chCvs_one _) (by unfold maxLen; omega) (by omega) fun u2 W5 o2 h _ => ?_
        refine ⟨h.to, ?_⟩
        refine h.lit (vs := [.agg [.int .i64 t, strV val, .bool gone].toArray]) (cs := [.int .i64 t, strV val, .bool gone]) (fun u3 W6 o3 h => ?_) (by decide)
        refine ⟨h.to, ?_⟩
        refine St.app (v := u2) h (h.osl (v := u3)) one3 (by unfold maxLen; omega) (by omega) fun u4 W7 o4 h _ => ?_
        refine ⟨h.to, ?_⟩
        rw [Nat.zero_add, List.nil_append] at h
        exact fin W7 u4 o4 h.to
      · refine h.litB (vs := [.agg [.int .i64 t, strV val, .bool gone].toArray]) (cs := [.int .i64 t, strV val, .bool gone]) (fun u3 W6 o3 m2' h => ?_) (by decide)
        replace hsv := hsv.below m2'
        refine ⟨h.to, ?_⟩
        refine St.app (v := u1) h hsv (chCvs_one _) (by unfold maxLen; omega) (by omega) fun u2 W5 o2 h _ => ?_
        refine ⟨h.to, ?_⟩
        refine St.app (v := u2) h (h.osl (v := u3)) one3 (by unfold maxLen; omega) (by omega) fun u4 W7 o4 h _ => ?_
        refine ⟨h.to, ?_⟩
        rw [Nat.zero_add, List.nil_append] at h
        exact fin W7 u4 o4 h.to
    · refine h.litB (vs := [.agg [.int .i64 t, strV val, .bool gone].toArray]) (cs := [.int .i64 t, strV val, .bool gone]) (fun u3 W6 o3 m2' h => ?_) (by decide)
      replace hsv := hsv.below m2'
      refine ⟨h.to, ?_⟩
      refine h.litB (vs := []) (cs := []) (fun u1 W4 o1 m1' h => ?_) (by decide)
      replace hsv := hsv.below m1'
      refine ⟨h.to, ?_⟩
      refine St.app (v := u1) h hsv (chCvs_one _) (by unfold maxLen; omega) (by omega) fun u2 W5 o2 h _ => ?_
      refine ⟨h.to, ?_⟩
      refine St.app (v := u2) h (h.osl (v := u3)) one3 (by unfold maxLen; omega) (by omega) fun u4 W7 o4 h _ => ?_
      refine ⟨h.to, ?_⟩
      rw [Nat.zero_add, List.nil_append] at h
      exact fin W7 u4 o4 h.to
  · refine a_not (ifnb (fun hh => ?_) fun hh => ?_)
    · replace h := h.drew
      refine ⟨fun W' => Rec W' b 63 [sl', .int .i64 low], h.rc, ?_⟩
      refine a_nil (a_fld0 ?_)
      refine s_ld (t := 63) (cs := [sl', .int .i64 low]) (fun w hw => hw) rfl ?_
      refine x_cutOw (v := sl') h hp ?_
      refine a_nil (a_fld0 ?_)
      refine s_ld (t := 63) (cs := [sl', .int .i64 low]) (fun w hw => hw) rfl ?_
      refine x_cutRd (h.osl (v := sl')) hp fun t0 hts => ?_
      refine x_bld (cells := #[strV key, .slice none 0 0]) rfl ⟨h.rc, ?_⟩
      refine h.litB (vs := [.agg [strV key, .slice none 0 0].toArray]) (fun t1 W1 o1 m1 h1 => ?_) (by decide)
      refine ⟨h1.rc, ?_⟩
      have hone : ∀ c ∈ (pcells (mpvs rs)).drop (posK key rs * 2), c.oneCell' = true := fun c hc => pcells_one _ c (List.mem_of_mem_drop hc)
      refine St.app (v := t1) h1 (hts.below m1) hone (by unfold maxLen; omega) (by omega) fun t2 W2 o2 h2 _ => ?_
      refine ⟨h2.rc, ?_⟩
      replace h2 := (St.find (k := sl') (X := Ow 130 2 rs.length (pcells (mpvs rs))) h2).cutOw (v := sl') hp
      refine St.app (v := cutV sl' (posK key rs)) h2 (h2.osl (v := t2)) (fun c hc => ?_) (by unfold maxLen; omega) (by omega) fun t3 W3 o3 h => ?_
      · rcases List.mem_append.1 hc with hc | hc
        · simp only [List.mem_cons, List.not_mem_nil, or_false] at hc
          rcases hc with rfl | rfl <;> rfl
        · exact hone c hc
      · intro _
        (repeat (first | (with_reducible refine ift ?_) | (with_reducible refine iff' ?_) | (with_reducible refine a_lss ?_) | (with_reducible refine a_leq ?_) | (with_reducible refine a_gtr ?_) | (with_reducible refine a_geq ?_) | (with_reducible refine w_eql ?_) | (with_reducible refine w_neq ?_) | (with_reducible refine s_eql ?_) | (with_reducible refine s_neq ?_) | ((with_reducible refine a_add64 ?h0 ?h1 ?_); (case h0 => omega); (case h1 => omega);  skip) | ((with_reducible refine a_sub64 ?h0 ?h1 ?_); (case h0 => omega); (case h1 => omega);  skip) | ((with_reducible refine a_mul64 ?h0 ?h1 ?_); (case h0 => omega); (case h1 => omega);  skip) | (with_reducible refine a_notd ?_) | (with_reducible refine a_not ?_) | (with_reducible refine a_ext0 ?_) | (with_reducible refine a_ext1 ?_) | (with_reducible refine a_ext2 ?_) | (with_reducible refine x_len ?_) | (with_reducible refine x_lens ?_) | (with_reducible refine x_eqb ?_) | (with_reducible refine x_neb ?_) | (with_reducible refine x_nilP ?_) | (with_reducible refine x_nilPn ?_) | (with_reducible refine x_nilF ?_) | (with_reducible refine x_nilFF ?_) | (with_reducible refine w_eqlL ?_) | (with_reducible refine w_neqL ?_) | (with_reducible refine s_eqlL ?_) | (with_reducible refine ifnt ?_) | (with_reducible refine ifnf ?_) | (with_reducible refine x_eqB ?_) | (with_reducible refine x_neB ?_) | (with_reducible refine x_lssL ?_) | (with_reducible refine x_gtrL ?_) | (with_reducible refine x_geqL ?_) | (with_reducible refine s_neqL ?_) | (with_reducible refine St.load h ?_) | (with_reducible refine St.loadS h ?_) | (with_reducible refine a_fld0 ?_) | (with_reducible refine St.store h fun W h => ?_) | (with_reducible refine St.storeS h fun W h => ?_) | (with_reducible refine St.alloc h fun b W h => ?_) | (with_reducible refine St.allocS h fun b W h => ?_) | (with_reducible refine a_nil ?_) | (with_reducible refine ss_load ?_) | (with_reducible refine ss_loadS ?_) | (with_reducible refine ss_eqb ?_)))
        refine ⟨rfl, t3, (mpvs rs).take (posK key rs) ++ (key, (⟨.slice none 0 0, rfl⟩ : OneV)) :: (mpvs rs).drop (posK key rs), ⟨.slice none 0 0, rfl⟩, ?_, fun x => ?_, ?_, ?_, o3, ?_⟩
        · rw [List.getElem?_append_right (by rw [List.length_take]; omega), List.length_take, mlen, Nat.min_eq_left hp]; simp
        · have := putK_fresh (k := key) (m := mpvs rs) x (⟨.slice none 0 0, rfl⟩ : OneV) (by rw [mhas]; exact hh)
          rw [mpos] at this
          exact this
        · simp [List.length_take, List.length_drop, mlen]; omega
        · rw [c1 hh]; exact Sl.nil _ 3
        · have hlen2 : ((mpvs rs).take (posK key rs) ++ (key, (⟨.slice none 0 0, rfl⟩ : OneV)) :: (mpvs rs).drop (posK key rs)).length = posK key rs + (1 + (rs.length - posK key rs)) := by
            simp [List.length_take, List.length_drop, mlen]; omega
          have hpc : pcells ((mpvs rs).take (posK key rs) ++ (key, (⟨.slice none 0 0, rfl⟩ : OneV)) :: (mpvs rs).drop (posK key rs)) = (pcells (mpvs rs)).take (posK key rs * 2) ++ ([strV key, .slice none 0 0] ++ (pcells (mpvs rs)).drop (posK key rs * 2)) := by
            rw [pcells_append, pcells_take, show pcells ((key, (⟨.slice none 0 0, rfl⟩ : OneV)) :: (mpvs rs).drop (posK key rs)) = [strV key, .slice none 0 0] ++ pcells ((mpvs rs).drop (posK key rs)) from rfl, pcells_drop]
          rw [hlen2, hpc]
          exact h.to
    · obtain ⟨r, hri, hrk, hce⟩ := c2 hh
      refine ⟨rfl, sl', mpvs rs, r.2.1, ?_, fun x => ?_, by rw [mlen]; omega, ?_, osl, ?_⟩
      · rw [mpRow hri, hrk]
      · unfold putK
        rw [mhas, hh, mpos]; rfl
      · rw [hce]; exact hch r (List.mem_of_getElem? hri)
      · rw [mlen]; exact h.to

/-- Put, Kill -/
theorem xput_spec {n : Nat} {t : Int} {val : Txt} [i : Has l PoolK.c (PlX kp) R1] [j : Has R1 v (Xs rs low) R] (h : St w0 G l W) (hk : InX kp rs) (hb : Bd n (rwvs rs)) (hn : n ≤ 500000)
    (k : ∀ kp' rs' W', InX kp' rs' → rwvs rs' = (addR (rwvs rs) low key (t, val, false)).2 → St w0 G (Ky v (Xs rs' low) :: Ky PoolK.c (PlX kp') :: R) W' → RR (.int .i64 (addR (rwvs rs) low key (t, val, false)).1) W') :
    CallF Try.prog 34 #[v, .int .i64 t, strV key, strV val] W RR := by
  refine sh34_calls ?_
  unfold sh34
  refine x_bld (cells := (verCvs (t, val, false)).toArray) rfl ?_
  exact xadd_spec h hk hb hn k
theorem xkill_spec {n : Nat} {t : Int} [i : Has l PoolK.c (PlX kp) R1] [j : Has R1 v (Xs rs low) R] (h : St w0 G l W) (hk : InX kp rs) (hb : Bd n (rwvs rs)) (hn : n ≤ 500000)
    (k : ∀ kp' rs' W', InX kp' rs' → rwvs rs' = (addR (rwvs rs) low key (t, [], true)).2 → St w0 G (Ky v (Xs rs' low) :: Ky PoolK.c (PlX kp') :: R) W' → RR (.int .i64 (addR (rwvs rs) low key (t, [], true)).1) W') :
    CallF Try.prog 35 #[v, .int .i64 t, strV key] W RR := by
  refine sh35_calls ?_
  unfold sh35
  refine x_bld (cells := (verCvs (t, [], true)).toArray) rfl ?_
  exact xadd_spec h hk hb hn k
end
end Go.Proofs.Ytffnabbchghokaa
