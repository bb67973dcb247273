/-
  DIFFERENCES: the document's own: changes put on a list of pairs, lists of pairs made plain: what each function answers.
-/
import Derived.Test.YtdjgchofnkancaaDfQ
namespace Go.Proofs.Ytdjgchofnkancaa
open Go Go.Ez Go.RowKit
set_option linter.unusedSimpArgs false
set_option linter.unusedVariables false

section
variable {w0 W : World} {l R : List As} {RR : Value → World → Prop}

/-- hblref20.Fold -/
theorem rfold_spec {m : List (Txt × Txt)} {ds : List Ch} {v u : Value} {n k0 : Nat} (hv : Sl W 2 v n (pcells m)) (hn : n = m.length) (hu : Sl W 3 u k0 (ccells ds)) (hk : k0 = ds.length) (hs : Srt m) (hlm : m.length ≤ 100000) (hld : ds.length ≤ 100000)
    (k : ∀ v' W', Cel1 v' → St W G0 [Ky v' (Ow 136 2 (foldD m ds).length (pcells (foldD m ds)))] W' → RR v' W') : CallF Try.prog 66 #[v, u] W RR := by
  refine sh66_calls ?_
  unfold sh66
  subst hn hk
  have h := St.start W
  refine h.lit (vs := []) (cs := []) (fun u1 W' o1 h => ?_) (by decide)
  refine St.app (v := u1) h (h.sl0 hv) (pcells_one m) (by unfold maxLen; omega) (by omega) fun u2 W' o2 h _ => ?_
  have h2 : St W G0 [Ky u2 (Ow 136 2 (foldD m (ds.take 0)).length (pcells (foldD m (ds.take 0))))] W' := by
    rw [Nat.zero_add, List.nil_append] at h
    have h3 : St W G0 [Ky u2 (Ow 136 2 m.length (pcells m))] W' := h.to
    exact h3
  clear h
  refine lpx (α := Value × Nat) (fun x => [x.1, nV .i64 x.2]) (fun x W' => x.2 ≤ ds.length ∧ St W G0 [Ky x.1 (Ow 136 2 (foldD m (ds.take x.2)).length (pcells (foldD m (ds.take x.2))))] W') (fun x => ds.length - x.2) (u2, 0) (fun _ => rfl) rfl ⟨Nat.zero_le _, h2⟩ ?_
  clear h2
  rintro next ⟨t, i⟩ W' hnext ⟨hi, h⟩
  simp only at hi h hnext
  refine x_lenS (h.sl0 hu) ?_
  refine a_lss (ifd (fun hc => ?_) fun hc => ?_)
  rotate_left
  · have hil : i = ds.length := by omega
    subst hil
    rw [List.take_length] at h
    have ot : Cel1 t := .of_own (h.ow (v := t))
    exact k t W' ot h
  obtain ⟨d, hd⟩ : ∃ d, ds[i]? = some d := ⟨_, List.getElem?_eq_getElem (by omega)⟩
  have step : foldD m (ds.take (i + 1)) = putD (foldD m (ds.take i)) d := by
    rw [List.take_add_one, hd]
    simp [foldD, List.foldl_append]
  have hM := foldD_srt (ds.take i) hs
  have hfl := foldD_len (ds.take i) m
  rw [List.length_take] at hfl
  have hnext' := fun (t' : Value) (W' : World) (h : St W G0 [Ky t' (Ow 136 2 (putD (foldD m (ds.take i)) d).length (pcells (putD (foldD m (ds.take i)) d)))] W') => hnext (t', i + 1) W' (by simp only; omega) ⟨by simp only; omega, by simp only; rw [step]; exact h⟩
  clear hnext
  generalize foldD m (ds.take i) = M at *
  have hp := posK_le d.1 M
  have hpl := pcells_length M
  have hd0 : (ccells ds)[i * 3 + 0]? = some (strV d.1) := (ccells_get hd (by decide)).trans rfl
  have hd1 : (ccells ds)[i * 3 + 1]? = some (strV d.2.1) := (ccells_get hd (by decide)).trans rfl
  have hd2 : (ccells ds)[i * 3 + 2]? = some (.bool d.2.2) := (ccells_get hd (by decide)).trans rfl
  refine jni (fun vs W' => vs = [u, t, nV .i64 i, nV .i64 (posK d.1 M)] ∧ St W G0 [Ky t (Ow 136 2 M.length (pcells M))] W') ?_ ?_
  · clear h
    rintro vs W' _ ⟨rfl, h⟩
    refine app4 ?_
    refine jni (fun vs W' => vs = [u, t, nV .i64 i, nV .i64 (posK d.1 M), .bool (hasK d.1 M)] ∧ St W G0 [Ky t (Ow 136 2 M.length (pcells M))] W') ?_ ?_
    · clear h
      rintro vs W' _ ⟨rfl, h⟩
      refine app5 ?_
      refine jni (fun vs W' => ∃ t', vs = [u, t', nV .i64 i] ∧ St W G0 [Ky t' (Ow 136 2 (putD M d).length (pcells (putD M d)))] W') ?_ ?_
      · clear h
        rintro vs W' _ ⟨t', rfl, h⟩
        refine app3 ?_
        refine a_add64 (by omega) (by omega) ⟨rfl, ?_⟩
        exact hnext' t' W' h
      refine x_fld (h.sl0 hu) (by omega) (by decide) hd2 ?_
      refine ifb (fun hg => ?_) fun hg => ?_
      · refine ifb (fun hh => ?_) fun hh => ?_
        · obtain ⟨x, hx⟩ := hasK_spec.1 hh
          have hil := (List.getElem?_eq_some_iff.1 hx).1
          rcases own_block_some (h.ow (v := t)) with ⟨_, h0, _⟩ | ⟨g, cap, rfl, hnc⟩
          · omega
          have hcap : cap ≤ 9223372036854775807 := by
            rcases (h.ow (v := .slice (some ⟨g, 0, none⟩) M.length cap)).2 with ⟨h0, _⟩ | ⟨g', c', cur, h0, _, _, _, hm, _⟩
            · cases h0
            · cases h0; unfold maxLen at hm; exact hm
          refine ⟨fun _ => True, trivial, ?_⟩
          replace h := h.drew
          refine x_slH (by omega) ?_
          refine a_add64 (by omega) (by omega) ?_
          rw [show ((posK d.1 M : Int) + 1) = ((posK d.1 M + 1 : Nat) : Int) by push_cast; rfl]
          refine x_slL (by omega) ?_
          refine h.cutOut (n := M.length) (i := posK d.1 M) (j := posK d.1 M + 1) (by omega) (by omega) (pcells_one M) fun W h => ?_
          refine ⟨_, rfl, ?_⟩
          have e : putD M d = M.take (posK d.1 M) ++ M.drop (posK d.1 M + 1) := by unfold putD delK; rw [if_pos hg, if_pos hh]
          rw [e, pcells_append, pcells_take, pcells_drop, show (M.take (posK d.1 M) ++ M.drop (posK d.1 M + 1)).length = posK d.1 M + (M.length - (posK d.1 M + 1)) by simp [List.length_take, List.length_drop]; omega]
          exact h.to
        · have e : putD M d = M := by unfold putD delK; rw [if_pos hg, hh]; rfl
          rw [e]
          refine jni (fun vs W' => vs = [u, t, nV .i64 i] ∧ St W G0 [Ky t (Ow 136 2 M.length (pcells M))] W') ?_ ?_
          · clear h
            rintro vs W' _ ⟨rfl, h⟩
            refine app3 ?_
            exact ⟨t, rfl, h⟩
          refine x_fld (h.sl0 hu) (by omega) (by decide) hd2 ?_
          rw [hg]
          exact ift ⟨rfl, h⟩
      · have e : putD M d = putK d.1 d.2.1 M := by unfold putD; rw [hg]; rfl
        rw [e]
        refine jni (fun vs W' => ∃ t', vs = [u, t', nV .i64 i] ∧ St W G0 [Ky t' (Ow 136 2 (putK d.1 d.2.1 M).length (pcells (putK d.1 d.2.1 M)))] W') ?_ ?_
        · clear h
          rintro vs W' _ ⟨t', rfl, h⟩
          refine app3 ?_
          exact ⟨t', rfl, h⟩
        refine x_fld (h.sl0 hu) (by omega) (by decide) hd2 ?_
        rw [hg]
        refine iff' ?_
        refine jni (fun vs W' => ∃ t', vs = [u, t', nV .i64 i] ∧ St W G0 [Ky t' (Ow 136 2 (putK d.1 d.2.1 M).length (pcells (putK d.1 d.2.1 M)))] W') ?_ ?_
        · clear h
          rintro vs W' _ ⟨t', rfl, h⟩
          refine app3 ?_
          exact ⟨t', rfl, h⟩
        refine ifb (fun hh => ?_) fun hh => ?_
        · obtain ⟨x, hx⟩ := hasK_spec.1 hh
          have hil := (List.getElem?_eq_some_iff.1 hx).1
          refine x_fld (h.sl0 hu) (by omega) (by decide) hd1 ?_
          refine h.setI (v := t) hil fun g cap hsl _ => ?_
          subst hsl
          refine a_fld ?_
          refine h.storeI (n := M.length) (cap := cap) (sz := 2) (q := posK d.1 M * 2 + 1) (by omega) fun W h => ?_
          refine ⟨_, rfl, ?_⟩
          have e2 : putK d.1 d.2.1 M = M.set (posK d.1 M) (d.1, d.2.1) := by unfold putK; rw [if_pos hh]
          rw [e2, List.length_set, pcells_set hx]
          exact h.to
        · refine ⟨fun W2 => Sl W2 3 u ds.length (ccells ds), h.drew.sl0 hu, ?_⟩
          replace h := h.drew
          refine x_cutOw (v := t) h hp ?_
          refine x_sfld (h.sl0 hu) (fun _ e => e) (by omega) (by decide) hd0 ?_
          refine x_sfld (h.sl0 hu) (fun _ e => e) (by omega) (by decide) hd1 ?_
          refine x_cutRd (h.osl (v := t)) hp fun t0 hts => ?_
          refine x_bld (cells := #[strV d.1, strV d.2.1]) rfl ?_
          refine h.litB (vs := [.agg [strV d.1, strV d.2.1].toArray]) (fun t1 W1 o1 m1 h1 => ?_) (by decide)
          refine St.app (v := t1) h1 (hts.below m1) (fun c hc => pcells_one M c (List.mem_of_mem_drop hc)) (by unfold maxLen; omega) (by omega) fun t2 W2 o2 h2 _ => ?_
          replace h2 := (St.find (k := t) (X := Ow 136 2 M.length (pcells M)) h2).cutOw (v := t) hp
          refine St.app (v := cutV t (posK d.1 M)) h2 (h2.osl (v := t2)) (fun c hc => ?_) (by unfold maxLen; omega) (by omega) fun t3 W3 o3 h _ => ?_
          · rcases List.mem_append.1 hc with hc | hc
            · simp only [List.mem_cons, List.not_mem_nil, or_false] at hc
              rcases hc with rfl | rfl <;> rfl
            · exact pcells_one M c (List.mem_of_mem_drop hc)
          refine ⟨t3, rfl, ?_⟩
          have e2 : putK d.1 d.2.1 M = M.take (posK d.1 M) ++ (d.1, d.2.1) :: M.drop (posK d.1 M) := by unfold putK; rw [hh, if_neg (by simp)]
          rw [e2, pcells_append, pcells_take, show pcells ((d.1, d.2.1) :: M.drop (posK d.1 M)) = [Enc.enc d.1, Enc.enc d.2.1] ++ pcells (M.drop (posK d.1 M)) from rfl, pcells_drop, show (M.take (posK d.1 M) ++ (d.1, d.2.1) :: M.drop (posK d.1 M)).length = posK d.1 M + (1 + (M.length - posK d.1 M)) by simp [List.length_take, List.length_drop]; omega]
          exact h.to
    · refine ⟨fun W2 => W2 = _, rfl, ?_⟩
      replace h := h.drew
      refine x_lenSs (h.osl (v := t)) ?_
      refine a_lss (ifd (fun hlt => ?_) fun hlt => ?_)
      · obtain ⟨p, hpp⟩ : ∃ p, M[posK d.1 M]? = some p := ⟨_, List.getElem?_eq_getElem (by omega)⟩
        refine x_sfld (h.osl (v := t)) (fun _ e => by subst e; exact h.osl (v := t)) (by omega) (by decide) (pcells_get hpp).1 ?_
        refine x_sfld (h.sl0 hu) (fun _ e => by subst e; exact h.sl0 hu) (by omega) (by decide) hd0 ?_
        refine s_eqlL ?_
        refine ⟨?_, h⟩
        have e : hasK d.1 M = decide (p.1 = d.1) := by
          cases hh : hasK d.1 M
          · symm
            refine decide_eq_false fun e => ?_
            have : hasK d.1 M = true := hasK_spec.2 ⟨p.2, by rw [hpp, ← e]⟩
            rw [hh] at this; cases this
          · obtain ⟨x, hx⟩ := hasK_spec.1 hh
            rw [hpp] at hx
            cases hx
            exact (decide_eq_true rfl).symm
        rw [e]
      · refine ⟨?_, h⟩
        have e : hasK d.1 M = false := by
          cases hh : hasK d.1 M
          · rfl
          · obtain ⟨x, hx⟩ := hasK_spec.1 hh
            have := (List.getElem?_eq_some_iff.1 hx).1
            omega
        rw [e]
  refine lpx (α := Nat) (fun q => [nV .i64 q]) (fun q W' => q ≤ posK d.1 M ∧ St W G0 [Ky t (Ow 136 2 M.length (pcells M))] W') (fun q => M.length - q) 0 (fun _ => rfl) rfl ⟨Nat.zero_le _, h⟩ ?_
  clear h
  rintro next2 q W' hnext2 ⟨hq, h⟩
  refine app1 ?_
  refine ⟨fun W2 => W2 = _, rfl, ?_⟩
  replace h := h.drew
  refine x_lenSs (h.osl (v := t)) ?_
  refine a_lss (ifd (fun hlt => ?_) fun hlt => ?_)
  · obtain ⟨p, hpp⟩ : ∃ p, M[q]? = some p := ⟨_, List.getElem?_eq_getElem (by omega)⟩
    refine x_sfld (h.osl (v := t)) (fun _ e => by subst e; exact h.osl (v := t)) (by omega) (by decide) (pcells_get hpp).1 ?_
    refine x_sfld (h.sl0 hu) (fun _ e => by subst e; exact h.sl0 hu) (by omega) (by decide) hd0 ?_
    refine x_lssL (ifb (fun hl => ?_) fun hl => ?_)
    · have hlt2 := (posK_iff hM hpp).1 hl
      refine a_add64 (by omega) (by omega) ⟨rfl, rfl, rfl, ?_⟩
      rw [show ((q : Int) + 1) = ((q + 1 : Nat) : Int) by push_cast; rfl]
      exact hnext2 (q + 1) _ (by omega) ⟨by omega, h⟩
    · have hge : ¬ q < posK d.1 M := fun h => by
        have h1 : OKey.lt p.1 d.1 = true := (posK_iff hM hpp).2 h
        have h2 : OKey.lt p.1 d.1 = false := hl
        rw [h2] at h1; cases h1
      have hqe : q = posK d.1 M := by omega
      subst hqe
      exact ⟨rfl, h⟩
  · have hqe : q = posK d.1 M := by omega
    subst hqe
    exact ⟨rfl, h⟩

theorem foldD_puts : ∀ (ps : List (Txt × Txt)) (m : List (Txt × Txt)), foldD m (ps.map fun p => (p.1, p.2, false)) = ps.foldl (fun m p => putK p.1 p.2 m) m
  | [], m => rfl
  | p :: ps, m => by
    show foldD (putD m (p.1, p.2, false)) (ps.map fun p => (p.1, p.2, false)) = ps.foldl (fun m p => putK p.1 p.2 m) (putK p.1 p.2 m)
    rw [foldD_puts ps]
    rfl

/-- hbllaw21.plain -/
theorem plain_spec {ps : List (Txt × Txt)} {v : Value} {n : Nat} (hv : Sl W 2 v n (pcells ps)) (hn : n = ps.length) (hl : ps.length ≤ 1000) (k : ∀ v' W', Cel1 v' → St W G0 [Ky v' (Ow 136 2 (fmap ps).length (pcells (fmap ps)))] W' → RR v' W') :
    CallF Try.prog 65 #[v] W RR := by
  refine sh65_calls ?_
  unfold sh65
  subst hn
  have h : St W G0 [Ky (.slice none 0 0 : Value) (Ow 102 3 0 (ccells ((ps.take 0).map fun p => (p.1, p.2, false))))] W := (St.start W).nilOw
  refine lpx (α := Value × Nat) (fun x => [x.1, nV .i64 x.2]) (fun x W' => x.2 ≤ ps.length ∧ St W G0 [Ky x.1 (Ow 102 3 x.2 (ccells ((ps.take x.2).map fun p => (p.1, p.2, false))))] W') (fun x => ps.length - x.2) (.slice none 0 0, 0) (fun _ => rfl) rfl ⟨Nat.zero_le _, h⟩ ?_
  clear h
  rintro next ⟨u, i⟩ W' hnext ⟨hi, h⟩
  simp only at hi h hnext
  refine x_lenS (h.sl0 hv) ?_
  refine a_lss (ifd (fun hc => ?_) fun hc => ?_)
  · obtain ⟨p, hp⟩ : ∃ d, ps[i]? = some d := ⟨_, List.getElem?_eq_getElem (by omega)⟩
    refine ⟨fun W2 => W2 = _, rfl, ?_⟩
    replace h := h.drew
    refine x_sfld (h.sl0 hv) (fun _ e => by subst e; exact h.sl0 hv) (by omega) (by decide) (pcells_get hp).1 ?_
    refine x_sfld (h.sl0 hv) (fun _ e => by subst e; exact h.sl0 hv) (by omega) (by decide) (pcells_get hp).2 ?_
    refine x_bld (cells := (Ch.cells (p.1, p.2, false)).toArray) rfl ?_
    refine h.lit (vs := [.agg (Ch.cells (p.1, p.2, false)).toArray]) (cs := Ch.cells (p.1, p.2, false)) (fun u2 W o2 h => ?_) (by decide)
    refine St.app (v := u) h (h.osl (v := u2)) (by simp [Ch.cells, Value.oneCell']) (by unfold maxLen; omega) (by omega) fun v' W o' h _ => ?_
    have e : ccells ((ps.take i).map fun p => (p.1, p.2, false)) ++ Ch.cells (p.1, p.2, false) = ccells ((ps.take (i + 1)).map fun p => (p.1, p.2, false)) := by
      rw [List.take_add_one, hp, List.map_append, ccells_append]
      show _ = _ ++ ccells [(p.1, p.2, false)]
      simp [ccells]
    rw [e] at h
    refine a_add64 (by omega) (by omega) ⟨rfl, ?_⟩
    rw [show ((i : Int) + 1) = ((i + 1 : Nat) : Int) by push_cast; rfl]
    exact hnext (v', i + 1) W (by simp only; omega) ⟨by simp only; omega, h.to⟩
  · have hil : i = ps.length := by omega
    subst hil
    rw [List.take_length] at h
    refine rfold_spec (m := []) (Sl.nil W' 2) rfl (h.osl (v := u)) (List.length_map ..).symm List.Pairwise.nil (Nat.zero_le _) (by rw [List.length_map]; omega) fun v' W2 o h2 => ?_
    rw [foldD_puts ps []] at h2
    have h4 : St W' G0 [Ky v' (Ow 136 2 (fmap ps).length (pcells (fmap ps)))] W2 := h2
    have h3 := h.frame1 h4
    exact k v' W2 o h3.to
end
end Go.Proofs.Ytdjgchofnkancaa
