/-
  XML: element, end: what each answers.
-/
import Derived.Test.YtlflpbflpcmckaaDoorXmL
namespace Go.Proofs.YtlflpbflpcmckaaDoor
open Go Go.Ez Go.RowKit Go.Lib
set_option linter.unusedSimpArgs false
set_option linter.unusedVariables false
section
variable {w0 W W' : World} {G : Nat → Prop} {l R R1 R2 : List As} {RR : Value → World → Prop} {t s pre : Txt} {b g n mb : Nat} {r : XRd} {v : Value} {f : XFr} {m : XMem} {L : List XPr} {name : Txt × Txt}
theorem attrsGo_len {dec : Txt → Int × Nat} {sgn : Int → Txt × Bool} : ∀ (f : Nat) (l : List XPr) (r : XRd), (XRd.attrsGo dec sgn f l r).1.length ≤ l.length + f
  | 0, l, r => Nat.le_refl _
  | f + 1, l, r => by
    unfold XRd.attrsGo
    split
    · exact Nat.le_add_right _ _
    · dsimp only
      split
      · exact Nat.le_add_right _ _
      · split
        · exact Nat.le_trans (attrsGo_len f l _) (by omega)
        · refine Nat.le_trans (attrsGo_len f _ _) ?_
          rw [List.length_append, List.length_singleton]; omega
theorem XFit.olen (h : XFit r m) : m.ov.length = r.out.length := by rw [← h.ov, List.length_map]
theorem XFit.plen (h : XFit r m) : m.pv.length = r.op.length := by rw [← h.pv, List.length_map]
theorem xls_of {q : XRd} (hr : q.run = r.run) (h : St w0 G (Ky b (Xo q (xc b m)) :: Ky m.vo (TkS m.ov) :: Ky m.vp (FrS m.pv) :: Ky m.vb (Ow 5 1 r.run.length (bytesV r.run)) :: Ky PoolK.a (KqA m.zs) :: Ky PoolK.b (Km m.ms) :: R) W) : St w0 G (XLs q b m R) W := by
  show St w0 G (Ky b (Xo q (xc b m)) :: Ky m.vo (TkS m.ov) :: Ky m.vp (FrS m.pv) :: Ky m.vb (Ow 5 1 q.run.length (bytesV q.run)) :: Ky PoolK.a (KqA m.zs) :: Ky PoolK.b (Km m.ms) :: R) W
  rw [hr]; exact h
theorem element_spec (hT : XTabs w0) (h : St w0 G0 (XLs r b m R) W) (hm : XFit r m) (hle : r.at_ + 1 ≤ r.s.length) (hs : r.s.length ≤ 30000) (hop : r.op.length ≤ 1000) (hout : r.out.length ≤ 900000)
    (k : ∀ m' W', XFit (XRd.element decX signS r) m' → St w0 G0 (XLs (XRd.element decX signS r) b m' R) W' → RR (.tuple #[]) W') : CallF Tryd.prog 28 #[.pointer (some ⟨b, 0, none⟩)] W RR := by
  refine sh28_calls ?_
  unfold sh28
  have holen := hm.olen
  have hplen := hm.plen
  obtain ⟨vo, vp, vb, u, ov, pv, zs, ms⟩ := m
  simp only at *
  have ovo : Cel1 vo := .of_own (h.ow (v := vo))
  have ovp : Cel1 vp := .of_own (h.ow (v := vp))
  have ovb : Cel1 vb := .of_own (h.ow (v := vb))
  unfold XRd.element at k
  dsimp only at k
  refine a_nil (a_fld0 (h.load ?_))
  refine a_add64 (by omega) (by omega) ?_
  refine a_nil (a_fld0 (h.store fun W h => ?_))
  replace h : St w0 G0 (Ky b (Xo (r.on 1) (vo, vp, xp b u, vb)) :: Ky vo (TkS ov) :: Ky vp (FrS pv) :: Ky vb (Ow 5 1 r.run.length (bytesV r.run)) :: Ky PoolK.a (KqA zs) :: Ky PoolK.b (Km ms) :: R) W := h
  have hst1 := XRd.stp_on (r := r) (n := 1) hle
  have hq : (r.on 1).at_ ≤ (r.on 1).s.length := hle
  generalize r.on 1 = q at *
  have hql : q.s.length = r.s.length := by rw [hst1.s]
  refine a_nil (a_fld0 (h.load ?_))
  refine x_lenS (h.osl (v := vp)) ?_
  have hqop : q.op.length = pv.length := by rw [hst1.op, hplen]
  refine a_geq (ifd (fun hc => ?_) fun hc => ?_)
  · rw [if_pos (by omega)] at k
    refine fail_spec (r := q) (c := (vo, vp, xp b u, vb)) h fun W h => ?_
    have hf := hst1.trans (XRd.stp_fail (c := 10) (by decide) hst1.ok.lt)
    exact k ⟨vo, vp, vb, u, ov, pv, zs, ms⟩ W (hm.same hf.out hf.op) (xls_of (m := ⟨vo, vp, vb, u, ov, pv, zs, ms⟩) hf.run h)
  rw [if_neg (by omega)] at k
  have hst2 := XRd.stp_full hq
  refine full_spec (r := q) (c := (vo, vp, xp b u, vb)) h hq (by omega) fun W h => ?_
  generalize q.full = F at *
  obtain ⟨⟨f1, f2⟩, q2⟩ := F
  simp only at *
  refine h.allocS fun t2 W h => ?_
  refine h.storeS (cs' := [strV f1, strV f2]) fun W h => ?_
  have hst12 := hst1.trans hst2
  have hst3 := XRd.stp_attrs (dec := decX) (sgn := signS) decX_ok hst2.ok
  refine attrs_spec hT (r := q2) (c := (vo, vp, xp b u, vb)) h hst2.ok (by rw [hst12.s]; exact hs) fun v3 W o3 h => ?_
  have hAl : (XRd.attrs decX signS q2).1.length ≤ 1000000 := by
    have h1 := attrsGo_len (dec := decX) (sgn := signS) (q2.s.length + 3) [] q2
    have h2 : q2.s.length = r.s.length := by rw [hst12.s]
    unfold XRd.attrs
    rw [List.length_nil] at h1
    omega
  generalize XRd.attrs decX signS q2 = A at *
  obtain ⟨L, q3⟩ := A
  simp only at *
  have hst13 := hst12.trans hst3
  refine a_nil (a_fld0 (h.load ?_))
  refine w_neq (ifd (fun he => ?_) fun he => ?_)
  · rw [if_pos he] at k
    exact k ⟨vo, vp, vb, u, ov, pv, zs, ms⟩ W (hm.same hst13.out hst13.op) (xls_of (m := ⟨vo, vp, vb, u, ov, pv, zs, ms⟩) hst13.run h.to)
  rw [if_neg he] at k
  have hst4 := XRd.stp_see (n := 0) hst3.ok
  refine see_spec (n := 0) (r := q3) (c := (vo, vp, xp b u, vb)) h hst3.ok (by rw [hst13.s]; omega) (by decide) fun W h => ?_
  have hY : ∀ y, (if (q3.see 0).1 = 47 then (q3.see 0).2.on 1 else (q3.see 0).2) = y → XRd.Stp q3 y := fun y hy => by
    rw [← hy]
    split
    · rename_i h47
      obtain ⟨x, hx, e⟩ := XRd.see_c (r := q3) (n := 0) (by rw [h47]; decide)
      have := XRd.lt_of_at hx
      rw [e]
      exact XRd.stp_on (by omega)
    · exact hst4
  have h47 : (q3.see 0).1 = 47 → (q3.see 0).2 = q3 ∧ q3.at_ < q3.s.length := fun h47 => by
    obtain ⟨x, hx, e⟩ := XRd.see_c (r := q3) (n := 0) (by rw [h47]; decide)
    rw [e]
    exact ⟨rfl, XRd.lt_of_at hx⟩
  generalize q3.see 0 = X at *
  obtain ⟨x, q4⟩ := X
  simp only at *
  refine w_eqC 47 rfl ?_
  generalize hy : (if x = 47 then q4.on 1 else q4) = y at *
  have hst5 := hst13.trans (hY y rfl)
  refine jni (fun vs W' => vs = [.pointer (some ⟨b, 0, none⟩), .pointer (some ⟨t2, 0, none⟩), v3, .bool (decide (x = 47))] ∧ St w0 G0 (Ky b (Xo y (vo, vp, xp b u, vb)) :: Ky v3 (PrS L) :: Ky t2 (Ob (.cells [strV f1, strV f2].toArray 82 (0, 0))) :: Ky vo (TkS ov) :: Ky vp (FrS pv) :: Ky vb (Ow 5 1 r.run.length (bytesV r.run)) :: Ky PoolK.a (KqA zs) :: Ky PoolK.b (Km ms) :: R) W') ?_ ?_
  · rintro vs W _ ⟨rfl, h⟩
    refine app4 ?_
    refine wants_spec (p := [62]) (r := y) (c := (vo, vp, xp b u, vb)) h hst5.ok (by rw [hst5.s]; omega) (by decide) fun W h => ?_
    have hst6 := hst5.trans (XRd.stp_wants (p := [62]) hst5.ok)
    generalize XRd.wants [62] y = z at *
    refine a_nil (a_fld0 (h.load ?_))
    refine w_neq (ifd (fun he => ?_) fun he => ?_)
    · rw [if_pos he] at k
      exact k ⟨vo, vp, vb, u, ov, pv, zs, ms⟩ W (hm.same hst6.out hst6.op) (xls_of (m := ⟨vo, vp, vb, u, ov, pv, zs, ms⟩) hst6.run h.to)
    rw [if_neg he] at k
    refine h.loadS ?_
    have hfit : XFit z ⟨vo, vp, vb, u, ov, pv, zs, ms⟩ := hm.same hst6.out hst6.op
    refine begin_spec (r := z) (name := (f1, f2)) (m := ⟨vo, vp, vb, u, ov, pv, zs, ms⟩) (L := L) (v := v3) (R := Ky t2 (Ob (.cells [strV f1, strV f2].toArray 82 (0, 0))) :: R) (xls_of (m := ⟨vo, vp, vb, u, ov, pv, zs, ms⟩) hst6.run h.to) hfit (by show pv.length ≤ _; omega) (by show ov.length ≤ _; omega) hAl fun mb m' W hm' hpv' hov' hmb hsub h => ?_
    have hpl := hm'.plen
    have hol := hm'.olen
    generalize XRd.begin_ (f1, f2) L z = B at *
    obtain ⟨fr, z1⟩ := B
    simp only at *
    refine h.allocS fun t5 W h => ?_
    refine h.storeS (cs' := fcell (fr, mb)) fun W h => ?_
    refine ifd (fun hx => ?_) fun hx => ?_
    · rw [if_pos hx] at k
      refine h.loadS ?_
      refine close_spec (r := z1) (m := m') (f := fr) (mb := mb) (R := Ky t5 (Ob (.cells (fcell (fr, mb)).toArray 88 (0, 0))) :: Ky v3 (PrS L) :: Ky t2 (Ob (.cells [strV f1, strV f2].toArray 82 (0, 0))) :: R) h.to hm' (by rw [hpv']; omega) (by omega) hmb fun m'' W hm'' _ _ _ h => ?_
      exact k m'' W hm'' h.to
    · rw [if_neg hx] at k
      obtain ⟨vo', vp', vb', u', ov', pv', zs', ms'⟩ := m'
      simp only at *
      have hpvl : pv'.length = pv.length := by rw [hpv']
      have ovo : Cel1 vo' := .of_own (h.ow (v := vo'))
      have ovp : Cel1 vp' := .of_own (h.ow (v := vp'))
      have ovb : Cel1 vb' := .of_own (h.ow (v := vb'))
      refine ⟨fun W => Rec W b 67 (xcells z1 (vo', vp', xp b u', vb')) ∧ Rec W t5 88 (fcell (fr, mb)), ⟨h.drew.rc, h.drew.rc⟩, ?_⟩
      replace h := h.drew
      refine a_nil (a_fld0 (s_ld (t := 67) (cs := xcells z1 (vo', vp', xp b u', vb')) (fun w hw => hw.1) rfl ?_))
      refine s_lds (cs := fcell (fr, mb)) (fun w hw => hw.2) ?_
      refine h.lit fun uu W ou h => ?_
      refine ⟨⟨h.rc, h.rc⟩, ?_⟩
      refine h.app (v := vp') (h.osl (v := uu)) (by intro a ha; simp only [List.mem_cons, List.not_mem_nil, or_false] at ha; rcases ha with rfl | rfl | rfl <;> rfl) (by (try dsimp only); unfold maxLen; omega) (by (try dsimp only); omega) fun vp2 W o2 h _ => ?_
      refine a_nil (a_fld0 (h.store fun W h => ?_))
      have e1 : pv'.length + 1 = (pv' ++ [(fr, mb)]).length := by simp
      have e2 : rcells fcell pv' ++ fcell (fr, mb) = rcells fcell (pv' ++ [(fr, mb)]) := by rw [rc_append, rc_single]
      refine k ⟨vo', vp2, vb', u', ov', pv' ++ [(fr, mb)], zs', ms'⟩ W ⟨hm'.ov, hm'.oz, ?_, ?_⟩ ?_
      · show (pv' ++ [(fr, mb)]).map Prod.fst = z1.op ++ [fr]
        rw [List.map_append, hm'.pv]; rfl
      · intro q hq
        rcases List.mem_append.1 hq with hq | hq
        · exact hm'.pm q hq
        · rw [List.mem_singleton.1 hq]; exact hmb
      · replace h : St w0 G0 (Ky b (Xo z1 (vo', vp2, xp b u', vb')) :: Ky vp2 (Ow 88 3 (pv'.length + 1) (rcells fcell pv' ++ fcell (fr, mb))) :: _) W := h
        rw [e2, e1] at h
        show St w0 G0 (Ky b (Xo z1 (vo', vp2, xp b u', vb')) :: Ky vo' (TkS ov') :: Ky vp2 (FrS (pv' ++ [(fr, mb)])) :: Ky vb' (Ow 5 1 z1.run.length (bytesV z1.run)) :: Ky PoolK.a (KqA zs') :: Ky PoolK.b (Km ms') :: R) W
        exact h.to
  · refine ifd (fun hx => ?_) fun hx => ?_
    · obtain ⟨e4, hlt⟩ := h47 hx
      rw [if_pos hx] at hy
      rw [← hy]
      have : q4.at_ ≤ 30000 := by rw [e4]; have := hst13.s; rw [this] at hlt; omega
      refine a_nil (a_fld0 (h.load ?_))
      refine a_add64 (by omega) (by omega) ?_
      refine a_nil (a_fld0 (h.store fun W h => ?_))
      replace h : St w0 G0 (Ky b (Xo (q4.on 1) (vo, vp, xp b u, vb)) :: _) W := h
      exact ⟨rfl, h.to⟩
    · rw [if_neg hx] at hy
      rw [← hy]
      exact ⟨rfl, h.to⟩
/-- an element's end -/
theorem end_spec (hT : XTabs w0) (h : St w0 G0 (XLs r b m R) W) (hm : XFit r m) (hle : r.at_ + 2 ≤ r.s.length) (hs : r.s.length ≤ 30000) (hne : r.op ≠ []) (hop : r.op.length ≤ 1000) (hout : r.out.length ≤ 900000)
    (k : ∀ m' W', XFit (XRd.end_ r) m' → St w0 G0 (XLs (XRd.end_ r) b m' R) W' → RR (.tuple #[]) W') : CallF Tryd.prog 49 #[.pointer (some ⟨b, 0, none⟩)] W RR := by
  refine sh49_calls ?_
  unfold sh49
  have holen := hm.olen
  have hplen := hm.plen
  obtain ⟨vo, vp, vb, u, ov, pv, zs, ms⟩ := m
  simp only at *
  have ovo : Cel1 vo := .of_own (h.ow (v := vo))
  have ovp : Cel1 vp := .of_own (h.ow (v := vp))
  have ovb : Cel1 vb := .of_own (h.ow (v := vb))
  obtain ⟨pv', ⟨f, mb⟩, hpv⟩ : ∃ pv' x, pv = pv' ++ [x] := by
    have : pv ≠ [] := fun e => hne (by have := hm.pv; simp only [e] at this; exact this.symm)
    exact ⟨pv.dropLast, pv.getLast this, (List.dropLast_concat_getLast this).symm⟩
  have hopf : r.op = pv'.map Prod.fst ++ [f] := by rw [← hm.pv, hpv, List.map_append]; rfl
  have hfm : (mb, f.spaces) ∈ ms := hm.pm (f, mb) (by rw [hpv]; simp)
  have hpl : pv.length = pv'.length + 1 := by rw [hpv]; simp
  unfold XRd.end_ at k
  dsimp only at k
  refine a_nil (a_fld0 (h.load ?_))
  refine a_add64 (by omega) (by omega) ?_
  refine a_nil (a_fld0 (h.store fun W h => ?_))
  replace h : St w0 G0 (Ky b (Xo (r.on 2) (vo, vp, xp b u, vb)) :: Ky vo (TkS ov) :: Ky vp (FrS pv) :: Ky vb (Ow 5 1 r.run.length (bytesV r.run)) :: Ky PoolK.a (KqA zs) :: Ky PoolK.b (Km ms) :: R) W := h
  have hst1 := XRd.stp_on (r := r) (n := 2) hle
  have hq : (r.on 2).at_ ≤ (r.on 2).s.length := hle
  have hlast : (r.on 2).op.getLastD default = f := by show r.op.getLastD default = f; rw [hopf]; simp
  rw [hlast] at k
  generalize r.on 2 = q at *
  have hql : q.s.length = r.s.length := by rw [hst1.s]
  refine a_nil (a_fld0 (h.load ?_))
  refine x_lenS (h.osl (v := vp)) ?_
  refine a_sub64 (by omega) (by omega) ?_
  rw [show ((pv.length : Int) - 1) = ((pv'.length : Nat) : Int) by omega]
  refine a_nil (a_fld0 (h.load ?_))
  refine x_rcl (a := (f, mb)) fcell_len (h.osl (v := vp)) rfl (by rw [hpv, List.getElem?_append_right (Nat.le_refl _), Nat.sub_self]; rfl) ?_
  refine h.allocS fun t3 W h => ?_
  refine h.storeS (cs' := fcell (f, mb)) fun W h => ?_
  have hst2 := XRd.stp_full hq
  refine full_spec (r := q) (c := (vo, vp, xp b u, vb)) h hq (by omega) fun W h => ?_
  generalize q.full = F at *
  obtain ⟨⟨f1, f2⟩, q2⟩ := F
  simp only at *
  refine h.allocS fun t4 W h => ?_
  refine h.storeS (cs' := [strV f1, strV f2]) fun W h => ?_
  have hst12 := hst1.trans hst2
  generalize hF : q2.failIf (decide (q2.e = 0 ∧ ¬ (f1 = f.pre ∧ f2 = f.name))) 4 = z at k
  have hst3 : XRd.Stp r z := by rw [← hF]; exact hst12.trans (XRd.stp_failIf (by decide) hst12.ok)
  refine jni (fun vs W' => vs = [.pointer (some ⟨b, 0, none⟩), nV .i64 pv'.length, .pointer (some ⟨t3, 0, none⟩)] ∧ St w0 G0 (Ky b (Xo z (vo, vp, xp b u, vb)) :: Ky t3 (Ob (.cells (fcell (f, mb)).toArray 88 (0, 0))) :: Ky vo (TkS ov) :: Ky vp (FrS pv) :: Ky vb (Ow 5 1 r.run.length (bytesV r.run)) :: Ky PoolK.a (KqA zs) :: Ky PoolK.b (Km ms) :: R) W') ?_ ?_
  · rintro vs W _ ⟨rfl, h⟩
    refine app3 ?_
    refine blanks_spec (r := z) (c := (vo, vp, xp b u, vb)) h hst3.ok (by rw [hst3.s]; omega) fun W h => ?_
    have hst4 := hst3.trans (XRd.stp_blanks hst3.ok)
    refine wants_spec (p := [62]) (r := z.blanks.2) (c := (vo, vp, xp b u, vb)) h hst4.ok (by rw [hst4.s]; omega) (by decide) fun W h => ?_
    have hst5 := hst4.trans (XRd.stp_wants (p := [62]) hst4.ok)
    generalize XRd.wants [62] z.blanks.2 = y at *
    refine a_nil (a_fld0 (h.load ?_))
    refine w_eql (ifd (fun he => ?_) fun he => ?_)
    · rw [if_pos he] at k
      refine h.loadS ?_
      have hfit : XFit y ⟨vo, vp, vb, u, ov, pv, zs, ms⟩ := hm.same hst5.out hst5.op
      refine close_spec (r := y) (m := ⟨vo, vp, vb, u, ov, pv, zs, ms⟩) (f := f) (mb := mb) (R := Ky t3 (Ob (.cells (fcell (f, mb)).toArray 88 (0, 0))) :: R) (xls_of (m := ⟨vo, vp, vb, u, ov, pv, zs, ms⟩) hst5.run h.to) hfit (by show pv.length ≤ _; omega) (by show ov.length ≤ _; omega) hfm fun m' W hm' hpv' _ _ h9 => ?_
      obtain ⟨vo', vp', vb', u', ov', pv2, zs', ms'⟩ := m'
      simp only at *
      subst hpv'
      have h := h9
      clear h9
      have ovo : Cel1 vo' := .of_own (h.ow (v := vo'))
      have ovp : Cel1 vp' := .of_own (h.ow (v := vp'))
      have ovb : Cel1 vb' := .of_own (h.ow (v := vb'))
      have hclop : (XRd.close f y).op = r.op := by
        show (XRd.space f f.pre y).2.op = r.op
        rw [(space_keep f f.pre y).2.2.2.1, hst5.op]
      generalize XRd.close f y = cl at *
      refine a_nil (a_fld0 (h.load ?_))
      refine x_cutOw (v := vp') (k := pv'.length) h (by (try dsimp only); omega) ?_
      have hcut : Cel1 (cutV vp' pv'.length) := by
        have h2 := h.cutOw (v := vp') (k := pv'.length) (by (try dsimp only); omega)
        exact .of_own (h2.ow (v := cutV vp' pv'.length))
      refine a_nil (a_fld0 (h.store fun W h => ?_))
      replace h := h.cutOw (v := vp') (k := pv'.length) (by (try dsimp only); omega)
      have e2 : (rcells fcell pv2).take (pv'.length * 3) = rcells fcell pv' := by
        rw [← rc_take fcell_len, hpv, List.take_left]
      rw [e2] at h
      refine k ⟨vo', cutV vp' pv'.length, vb', u', ov', pv', zs', ms'⟩ W ⟨hm'.ov, hm'.oz, ?_, fun q hq => hm'.pm q (by rw [hpv]; exact List.mem_append_left _ hq)⟩ ?_
      · show pv'.map Prod.fst = cl.op.dropLast
        rw [hclop, hopf, List.dropLast_concat]
      · show St w0 G0 (Ky b (Xo cl (vo', cutV vp' pv'.length, xp b u', vb')) :: Ky vo' (TkS ov') :: Ky (cutV vp' pv'.length) (FrS pv') :: Ky vb' (Ow 5 1 cl.run.length (bytesV cl.run)) :: Ky PoolK.a (KqA zs') :: Ky PoolK.b (Km ms') :: R) W
        replace h : St w0 G0 (Ky (cutV vp' pv'.length) (FrS pv') :: Ky b (Xo cl (vo', cutV vp' pv'.length, xp b u', vb')) :: _) W := h
        exact h.to
    · rw [if_neg he] at k
      exact k ⟨vo, vp, vb, u, ov, pv, zs, ms⟩ W (hm.same hst5.out hst5.op) (xls_of (m := ⟨vo, vp, vb, u, ov, pv, zs, ms⟩) hst5.run h.to)
  · refine a_nil (a_fld0 (h.load ?_))
    refine w_eql (ifd (fun he => ?_) fun he => ?_)
    · refine h.loadS ?_
      refine a_fld0 (St.loadP (b := t3) (o := 0) (t := 88) (all := fcell (f, mb)) (cs := [strV f.pre, strV f.name]) h (fun j u hj => ?_) ?_)
      · rw [Nat.zero_add]; match j, hj with
        | 0, hj => exact hj
        | 1, hj => exact hj
      refine w_neFull (ifnb (fun hn => ?_) fun hn => ?_)
      · refine fail_spec (r := q2) (c := (vo, vp, xp b u, vb)) h fun W h => ⟨rfl, ?_⟩
        rw [decide_eq_true (show q2.e = 0 ∧ ¬ (f1 = f.pre ∧ f2 = f.name) from ⟨he, of_decide_eq_false hn⟩)] at hF
        rw [← hF]
        show St w0 G0 (Ky b (Xo (q2.fail 4) (vo, vp, xp b u, vb)) :: _) _
        exact h.to
      · refine ⟨rfl, ?_⟩
        rw [decide_eq_false (fun hx => hx.2 (of_decide_eq_true hn))] at hF
        rw [← hF]
        show St w0 G0 (Ky b (Xo q2 (vo, vp, xp b u, vb)) :: _) _
        exact h.to
    · refine ⟨rfl, ?_⟩
      rw [decide_eq_false (fun hx => he hx.1)] at hF
      rw [← hF]
      show St w0 G0 (Ky b (Xo q2 (vo, vp, xp b u, vb)) :: _) _
      exact h.to
end
end Go.Proofs.YtlflpbflpcmckaaDoor
