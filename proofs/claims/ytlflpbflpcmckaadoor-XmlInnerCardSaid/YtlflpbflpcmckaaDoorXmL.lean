/-
  XML: begin: what it answers.
-/
import Derived.Test.YtlflpbflpcmckaaDoorXmK
namespace Go.Proofs.YtlflpbflpcmckaaDoor
open Go Go.Ez Go.RowKit Go.Lib
set_option linter.unusedSimpArgs false
set_option linter.unusedVariables false
section
variable {w0 W W' : World} {G : Nat → Prop} {l R R1 R2 : List As} {RR : Value → World → Prop} {t s pre : Txt} {b g n mb : Nat} {r : XRd} {v : Value} {f : XFr} {m : XMem} {L : List XPr} {name : Txt × Txt}
theorem attsOf_keep {f : XFr} : ∀ {l : List XPr} {o : List XAt} {r : XRd}, (XRd.attsOf f l o r).2.s = r.s ∧ (XRd.attsOf f l o r).2.at_ = r.at_ ∧ (XRd.attsOf f l o r).2.out = r.out ∧ (XRd.attsOf f l o r).2.op = r.op ∧ (XRd.attsOf f l o r).2.run = r.run
  | [], o, r => ⟨rfl, rfl, rfl, rfl, rfl⟩
  | p :: l, o, r => by
    unfold XRd.attsOf
    split
    · exact attsOf_keep
    · split
      · have h1 := attsOf_keep (f := f) (l := l) (o := o ++ [⟨(XRd.space f p.pre r).1, p.name, p.value⟩]) (r := (XRd.space f p.pre r).2)
        have h2 := space_keep f p.pre r
        exact ⟨h1.1.trans h2.1, h1.2.1.trans h2.2.1, h1.2.2.1.trans h2.2.2.1, h1.2.2.2.1.trans h2.2.2.2.1, h1.2.2.2.2.trans h2.2.2.2.2⟩
      · exact attsOf_keep
theorem begin_spec (h : St w0 G (XLs r b m (Ky v (PrS L) :: R)) W) (hm : XFit r m) (hl : m.pv.length ≤ 1000000) (hlo : m.ov.length ≤ 1000000) (hL : L.length ≤ 1000000)
    (k : ∀ mb m' W', XFit (XRd.begin_ name L r).2 m' → m'.pv = m.pv → m'.ov.length = m.ov.length + 1 → (mb, (XRd.begin_ name L r).1.spaces) ∈ m'.ms → (∀ z ∈ m.ms, z ∈ m'.ms) → St w0 G (XLs (XRd.begin_ name L r).2 b m' (Ky v (PrS L) :: R)) W' → RR (.agg (fcell ((XRd.begin_ name L r).1, mb)).toArray) W') :
    CallF Tryd.prog 44 #[.pointer (some ⟨b, 0, none⟩), .agg #[strV name.1, strV name.2], v] W RR := by
  refine sh44_calls ?_
  unfold sh44
  obtain ⟨vo, vp, vb, u, ov, pv, zs, ms⟩ := m
  simp only at *
  have ovo : Cel1 vo := .of_own (h.ow (v := vo))
  have ovp : Cel1 vp := .of_own (h.ow (v := vp))
  have ovb : Cel1 vb := .of_own (h.ow (v := vb))
  refine h.boxS (cs := [strV name.1, strV name.2]) fun t4 W h => ?_
  refine h.allocS fun t6 W h => ?_
  refine h.loadS ?_
  refine h.mapNew () fun mb W h => ?_
  refine x_bld (cells := [strV name.1, strV name.2, .map (some mb)].toArray) rfl ?_
  refine h.allocS fun t7 W h => ?_
  refine h.storeS (cs' := fcell (⟨name.1, name.2, []⟩, mb)) fun W h => ?_
  refine x_lenS (h.osl (v := v)) ?_
  generalize hSP : XRd.spacesOf L [] = SP
  have hbe : XRd.begin_ name L r = (⟨name.1, name.2, SP⟩, { (XRd.attsOf ⟨name.1, name.2, SP⟩ L [] (XRd.space ⟨name.1, name.2, SP⟩ name.1 r).2).2 with out := (XRd.attsOf ⟨name.1, name.2, SP⟩ L [] (XRd.space ⟨name.1, name.2, SP⟩ name.1 r).2).2.out ++ [⟨1, (XRd.space ⟨name.1, name.2, SP⟩ name.1 r).1, name.2, [], (XRd.attsOf ⟨name.1, name.2, SP⟩ L [] (XRd.space ⟨name.1, name.2, SP⟩ name.1 r).2).1⟩] }) := by
    rw [← hSP]; rfl
  rw [hbe] at k
  clear hbe
  refine lpx (α := Nat × Fm) (fun A => [nV .i64 A.1]) (fun A W' => A.1 ≤ L.length ∧ XRd.spacesOf (L.drop A.1) A.2 = SP ∧ St w0 G (Ky mb (Mg () A.2) :: Ky t7 (Ob (.cells (fcell (⟨name.1, name.2, []⟩, mb)).toArray 88 (0, 0))) :: Ky t6 (Ob (.cells [strV [], strV [], .map none].toArray 88 (0, 0))) :: Ky t4 (Ob (.cells [strV name.1, strV name.2].toArray 82 (0, 0))) ::
      Ky b (Xo r (vo, vp, xp b u, vb)) :: Ky vo (TkS ov) :: Ky vp (FrS pv) :: Ky vb (Ow 5 1 r.run.length (bytesV r.run)) :: Ky PoolK.a (KqA zs) :: Ky PoolK.b (Km ms) :: Ky v (PrS L) :: R) W') (fun A => L.length - A.1) (0, []) (fun _ => rfl) rfl ⟨Nat.zero_le _, hSP, h.to⟩ ?_
  clear h
  rintro next ⟨i, mm⟩ W1 hnext ⟨h1, h2, h⟩
  simp only at h1 h2 h
  refine app1 ?_
  refine a_lss (ifd (fun hc => ?_) fun hc => ?_)
  · have hi : i < L.length := by omega
    have ga : L[i]? = some L[i] := List.getElem?_eq_getElem hi
    rw [List.drop_eq_getElem_cons hi] at h2
    generalize L[i] = p at ga h2
    refine x_rcl prc_len (h.osl (v := v)) rfl ga ?_
    refine h.allocS fun t9 W h => ?_
    refine h.storeS (cs' := prc p) fun W h => ?_
    refine h.loadS ?_
    refine tells_spec (p := p) h fun W h => a_ext0 (a_ext1 ?_)
    unfold XRd.spacesOf at h2
    refine jni (fun vs W' => ∃ mm', vs = [.pointer (some ⟨b, 0, none⟩), v, .pointer (some ⟨t4, 0, none⟩), .pointer (some ⟨t6, 0, none⟩), .pointer (some ⟨t7, 0, none⟩), v, nV .i64 L.length, nV .i64 i] ∧ XRd.spacesOf (L.drop (i + 1)) mm' = SP ∧ St w0 G (Ky mb (Mg () mm') :: Ky t7 (Ob (.cells (fcell (⟨name.1, name.2, []⟩, mb)).toArray 88 (0, 0))) :: Ky t6 (Ob (.cells [strV [], strV [], .map none].toArray 88 (0, 0))) :: Ky t4 (Ob (.cells [strV name.1, strV name.2].toArray 82 (0, 0))) ::
      Ky b (Xo r (vo, vp, xp b u, vb)) :: Ky vo (TkS ov) :: Ky vp (FrS pv) :: Ky vb (Ow 5 1 r.run.length (bytesV r.run)) :: Ky PoolK.a (KqA zs) :: Ky PoolK.b (Km ms) :: Ky v (PrS L) :: R) W') ?_ ?_
    · rintro vs W _ ⟨mm', rfl, he, h⟩
      refine app8 ?_
      refine a_add64 (by omega) (by omega) ⟨rfl, rfl, rfl, rfl, rfl, rfl, rfl, ?_⟩
      rw [show ((i : Int) + 1) = ((i + 1 : Nat) : Int) by push_cast; rfl]
      exact hnext (i + 1, mm') W (by simp only; omega) ⟨by simp only; omega, he, h⟩
    · refine ifb (fun ht => ?_) fun ht => ?_
      · rw [ht] at h2
        refine a_fld0 (h.load ?_)
        refine a_fld0 (h.load ?_)
        refine h.mapPut (b := mb) (x := p.value) rfl fun W h => ?_
        exact ⟨XRd.putS mm (XRd.tells p).1 p.value, rfl, by simpa using h2, h.to⟩
      · rw [ht] at h2
        exact ⟨mm, rfl, by simpa using h2, h.to⟩
  · have hi : i = L.length := by omega
    rw [hi, List.drop_length] at h2
    have h2' : mm = SP := h2
    clear h2 hSP hnext
    rw [h2'] at h
    clear h2'
    replace h := h.kmAdd (k := PoolK.b) (b := mb)
    generalize hF : (⟨name.1, name.2, SP⟩ : XFr) = F at k
    replace h : St w0 G (Ky b (Xo r (vo, vp, xp b u, vb)) :: Ky vp (FrS pv) :: Ky PoolK.b (Km ((mb, SP) :: ms)) :: Ky t7 (Ob (.cells (fcell (F, mb)).toArray 88 (0, 0))) :: Ky t6 (Ob (.cells [strV [], strV [], .map none].toArray 88 (0, 0))) :: Ky t4 (Ob (.cells [strV name.1, strV name.2].toArray 82 (0, 0))) ::
      Ky vo (TkS ov) :: Ky vb (Ow 5 1 r.run.length (bytesV r.run)) :: Ky PoolK.a (KqA zs) :: Ky v (PrS L) :: R) W1 := by
      rw [← hF]; exact h.to
    have hFm : (mb, F.spaces) ∈ (mb, SP) :: ms := by rw [← hF]; simp
    have hms' : ∀ q ∈ pv, (q.2, q.1.spaces) ∈ (mb, SP) :: ms := fun q hq => List.mem_cons_of_mem _ (hm.pm q hq)
    have hFs : F.spaces = SP := by rw [← hF]
    generalize hMS : (mb, SP) :: ms = ms' at *
    have hsub : ∀ z ∈ ms, z ∈ ms' := fun z hz => by rw [← hMS]; exact List.mem_cons_of_mem _ hz
    have hkeep := space_keep F name.1 r
    have spc : ∀ (W : World) (K : Value → World → Prop) (X : List As), St w0 G (Ky b (Xo r (vo, vp, xp b u, vb)) :: Ky vp (FrS pv) :: Ky PoolK.b (Km ms') :: X) W → (∀ W', St w0 G (Ky b (Xo (XRd.space F name.1 r).2 (vo, vp, xp b u, vb)) :: Ky vp (FrS pv) :: Ky PoolK.b (Km ms') :: X) W' → K (strV (XRd.space F name.1 r).1) W') → CallF Tryd.prog 58 #[.pointer (some ⟨b, 0, none⟩), .agg (fcell (F, mb)).toArray, strV name.1] W K := fun W K X h hk =>
      space_spec (r := r) (f := F) (mb := mb) (pre := name.1) (pv := pv) (ms := ms') (vo := vo) (vp := vp) (vx := xp b u) (vb := vb) h hm.pv hl hms' hFm hk
    generalize XRd.space F name.1 r = Q at *
    obtain ⟨sp, q⟩ := Q
    simp only at *
    refine jni (fun vs W' => ∃ t12 : Nat, vs = [.pointer (some ⟨b, 0, none⟩), v, .pointer (some ⟨t6, 0, none⟩), .pointer (some ⟨t7, 0, none⟩), .pointer (some ⟨t12, 0, none⟩)] ∧ St w0 G (Ky t12 (Ob (.cells (tcell (⟨1, sp, name.2, [], []⟩, .slice none 0 0)).toArray 30 (0, 0))) :: Ky b (Xo q (vo, vp, xp b u, vb)) :: Ky vp (FrS pv) :: Ky PoolK.b (Km ms') :: Ky t7 (Ob (.cells (fcell (F, mb)).toArray 88 (0, 0))) :: Ky t6 (Ob (.cells [strV [], strV [], .map none].toArray 88 (0, 0))) :: Ky vo (TkS ov) :: Ky vb (Ow 5 1 r.run.length (bytesV r.run)) :: Ky PoolK.a (KqA zs) :: Ky v (PrS L) :: R) W') ?_ ?_
    · rintro vs W _ ⟨t12, rfl, h⟩
      refine app5 ?_
      refine x_lenS (h.osl (v := v)) ?_
      replace h : St w0 G (Ky (.slice none 0 0) (AtS []) :: _) W := h.nilOw
      generalize hAT : XRd.attsOf F L [] q = AT at k
      have hATk := attsOf_keep (f := F) (l := L) (o := []) (r := q)
      rw [hAT] at hATk
      refine lpx (α := Nat × List XAt × Value × XRd) (fun A => [nV .i64 A.1]) (fun A W' => A.1 ≤ L.length ∧ A.2.1.length ≤ A.1 ∧ Cel1 A.2.2.1 ∧ A.2.2.2.op = r.op ∧ XRd.attsOf F (L.drop A.1) A.2.1 A.2.2.2 = AT ∧ St w0 G (Ky A.2.2.1 (AtS A.2.1) :: Ky t12 (Ob (.cells (tcell (⟨1, sp, name.2, [], []⟩, A.2.2.1)).toArray 30 (0, 0))) :: Ky b (Xo A.2.2.2 (vo, vp, xp b u, vb)) :: Ky vp (FrS pv) :: Ky PoolK.b (Km ms') :: Ky t7 (Ob (.cells (fcell (F, mb)).toArray 88 (0, 0))) :: Ky t6 (Ob (.cells [strV [], strV [], .map none].toArray 88 (0, 0))) :: Ky vo (TkS ov) :: Ky vb (Ow 5 1 r.run.length (bytesV r.run)) :: Ky PoolK.a (KqA zs) :: Ky v (PrS L) :: R) W') (fun A => L.length - A.1) (0, [], .slice none 0 0, q) (fun _ => rfl) rfl ⟨Nat.zero_le _, Nat.le_refl _, ⟨rfl⟩, hkeep.2.2.2.1, hAT, h⟩ ?_
      clear h
      rintro next ⟨i, o, va, z⟩ W1 hnext ⟨h1, h2, ova, h3, h4, h⟩
      simp only at h1 h2 ova h3 h4 h
      refine app1 ?_
      refine a_lss (ifd (fun hc => ?_) fun hc => ?_)
      · have hi : i < L.length := by omega
        have ga : L[i]? = some L[i] := List.getElem?_eq_getElem hi
        rw [List.drop_eq_getElem_cons hi] at h4
        generalize L[i] = p at ga h4
        refine jni (fun vs W' => ∃ (o' : List XAt) (va' : Value) (z' : XRd), vs = [.pointer (some ⟨b, 0, none⟩), .pointer (some ⟨t6, 0, none⟩), .pointer (some ⟨t7, 0, none⟩), .pointer (some ⟨t12, 0, none⟩), v, nV .i64 L.length, nV .i64 i] ∧ o'.length ≤ i + 1 ∧ Cel1 va' ∧ z'.op = r.op ∧ XRd.attsOf F (L.drop (i + 1)) o' z' = AT ∧ St w0 G (Ky va' (AtS o') :: Ky t12 (Ob (.cells (tcell (⟨1, sp, name.2, [], []⟩, va')).toArray 30 (0, 0))) :: Ky b (Xo z' (vo, vp, xp b u, vb)) :: Ky vp (FrS pv) :: Ky PoolK.b (Km ms') :: Ky t7 (Ob (.cells (fcell (F, mb)).toArray 88 (0, 0))) :: Ky t6 (Ob (.cells [strV [], strV [], .map none].toArray 88 (0, 0))) :: Ky vo (TkS ov) :: Ky vb (Ow 5 1 r.run.length (bytesV r.run)) :: Ky PoolK.a (KqA zs) :: Ky v (PrS L) :: R) W') ?_ ?_
        · rintro vs W _ ⟨o', va', z', rfl, g1, g2, g3, g4, h⟩
          refine app7 ?_
          refine a_add64 (by omega) (by omega) ⟨rfl, rfl, rfl, rfl, rfl, rfl, ?_⟩
          rw [show ((i : Int) + 1) = ((i + 1 : Nat) : Int) by push_cast; rfl]
          exact hnext (i + 1, o', va', z') W (by simp only; omega) ⟨by simp only; omega, g1, g2, g3, g4, h⟩
        · refine x_rcl prc_len (h.osl (v := v)) rfl ga ?_
          refine h.allocS fun t14 W h => ?_
          refine h.storeS (cs' := prc p) fun W h => ?_
          refine h.loadS ?_
          refine tells_spec (p := p) h fun W h => a_ext0 (a_ext1 ?_)
          unfold XRd.attsOf at h4
          refine ifb (fun ht => ?_) fun ht => ?_
          · rw [if_pos ht] at h4
            exact ⟨o, va, z, rfl, by omega, ova, h3, h4, h.to⟩
          rw [if_neg (by rw [ht]; decide)] at h4
          refine a_fld0 (a_fld (o := 0) ?_)
          dsimp only [Nat.reduceAdd]
          refine h.load ?_
          refine a_fld0 (h.load ?_)
          refine x_bld (cells := (atc ⟨[], p.name, p.value⟩).toArray) rfl ?_
          refine h.allocS fun t17 W h => ?_
          refine h.storeS (cs' := atc ⟨[], p.name, p.value⟩) fun W h => ?_
          refine jni (fun vs W' => ∃ (a : XAt) (z' : XRd), vs = [.pointer (some ⟨b, 0, none⟩), .pointer (some ⟨t6, 0, none⟩), .pointer (some ⟨t7, 0, none⟩), .pointer (some ⟨t12, 0, none⟩), .pointer (some ⟨t17, 0, none⟩), v, nV .i64 L.length, nV .i64 i] ∧ z'.op = r.op ∧ XRd.attsOf F (L.drop (i + 1)) (o ++ [a]) z' = AT ∧ St w0 G (Ky t17 (Ob (.cells (atc a).toArray 35 (0, 0))) :: Ky va (AtS o) :: Ky t12 (Ob (.cells (tcell (⟨1, sp, name.2, [], []⟩, va)).toArray 30 (0, 0))) :: Ky b (Xo z' (vo, vp, xp b u, vb)) :: Ky vp (FrS pv) :: Ky PoolK.b (Km ms') :: Ky t7 (Ob (.cells (fcell (F, mb)).toArray 88 (0, 0))) :: Ky t6 (Ob (.cells [strV [], strV [], .map none].toArray 88 (0, 0))) :: Ky vo (TkS ov) :: Ky vb (Ow 5 1 r.run.length (bytesV r.run)) :: Ky PoolK.a (KqA zs) :: Ky v (PrS L) :: R) W') ?_ ?_
          · rintro vs W _ ⟨a, z', rfl, g3, g4, h⟩
            refine app8 ?_
            refine a_fld0 (h.load ?_)
            refine h.loadS ?_
            refine h.lit fun uu W ou h => ?_
            refine h.app (v := va) (h.osl (v := uu)) (by intro a ha; simp only [List.mem_cons, List.not_mem_nil, or_false] at ha; rcases ha with rfl | rfl | rfl <;> rfl) (by unfold maxLen; omega) (by omega) fun va' W o' h _ => ?_
            refine a_fld0 (h.store fun W h => ?_)
            rw [show rcells atc o ++ [strV a.space, strV a.name, strV a.value] = rcells atc (o ++ [a]) by rw [rc_append, rc_single], show o.length + 1 = (o ++ [a]).length by simp] at h
            exact ⟨o ++ [a], va', z', rfl, by rw [List.length_append, List.length_singleton]; omega, o', g3, g4, h.to⟩
          · refine a_fld0 (a_fld (o := 0) ?_)
            dsimp only [Nat.reduceAdd]
            refine h.load ?_
            refine w_neqL (ifd (fun hne => ?_) fun hne => ?_)
            · rw [if_pos hne] at h4
              refine h.loadS ?_
              refine a_fld0 (a_fld (o := 0) ?_)
              dsimp only [Nat.reduceAdd]
              refine h.load ?_
              refine space_spec (r := z) (f := F) (mb := mb) (pre := p.pre) (pv := pv) (ms := ms') (vo := vo) (vp := vp) (vx := xp b u) (vb := vb) h (hm.pv.trans h3.symm) hl hms' hFm fun W h => ?_
              have hzk := space_keep F p.pre z
              generalize XRd.space F p.pre z = Y at *
              obtain ⟨ys, y⟩ := Y
              simp only at *
              refine a_fld0 (h.store fun W h => ?_)
              exact ⟨⟨ys, p.name, p.value⟩, y, rfl, hzk.2.2.2.1.trans h3, h4, h.to⟩
            · rw [if_neg hne] at h4
              exact ⟨⟨[], p.name, p.value⟩, z, rfl, h3, h4, h.to⟩
      · have hi : i = L.length := by omega
        rw [hi, List.drop_length] at h4
        have h4' : AT = (o, z) := h4.symm
        clear h4 hnext
        rw [h4'] at hATk k
        simp only at hATk k
        replace h := h.kqAdd (k := PoolK.a) (v := va) (xs := o) rfl rfl
        refine ⟨fun W => Rec W b 67 (xcells z (vo, vp, xp b u, vb)) ∧ Rec W t12 30 (tcell (⟨1, sp, name.2, [], []⟩, va)), ⟨h.drew.rc, h.drew.rc⟩, ?_⟩
        replace h := h.drew
        refine a_nil (a_fld0 (s_ld (t := 67) (cs := xcells z (vo, vp, xp b u, vb)) (fun w hw => hw.1) rfl ?_))
        refine s_lds (cs := tcell (⟨1, sp, name.2, [], []⟩, va)) (fun w hw => hw.2) ?_
        refine h.lit fun uu W ou h => ?_
        refine ⟨⟨h.rc, h.rc⟩, ?_⟩
        refine h.app (v := vo) (h.osl (v := uu)) (by intro a ha; simp only [List.mem_cons, List.not_mem_nil, or_false] at ha; rcases ha with rfl | rfl | rfl | rfl | rfl; rfl; rfl; rfl; rfl; exact ova.one) (by unfold maxLen; omega) (by omega) fun vo' W o' h _ => ?_
        refine a_nil (a_fld0 (h.store fun W h => ?_))
        refine h.loadS ?_
        refine h.storeS (cs' := fcell (F, mb)) fun W h => ?_
        refine h.loadS ?_
        have e1 : ov.length + 1 = (ov ++ [((⟨1, sp, name.2, [], o⟩ : XTk), va)]).length := by simp
        have e2 : rcells tcell ov ++ tcell (⟨1, sp, name.2, [], []⟩, va) = rcells tcell (ov ++ [((⟨1, sp, name.2, [], o⟩ : XTk), va)]) := by rw [rc_append, rc_single]
        refine k mb ⟨vo', vp, vb, u, ov ++ [((⟨1, sp, name.2, [], o⟩ : XTk), va)], pv, (va, o) :: zs, ms'⟩ W ⟨?_, ?_, ?_, hms'⟩ rfl (by simp) hFm hsub ?_
        · show (ov ++ _).map Prod.fst = z.out ++ _
          rw [List.map_append, hATk.2.2.1, hkeep.2.2.1, ← hm.ov]; rfl
        · intro p hp
          rcases List.mem_append.1 hp with hp | hp
          · exact ⟨(hm.oz p hp).1.sub fun z hz => List.mem_cons_of_mem _ hz, (hm.oz p hp).2⟩
          · rw [List.mem_singleton.1 hp]
            exact ⟨.inl (List.mem_cons_self ..), ova.one⟩
        · show pv.map Prod.fst = z.op
          rw [h3]; exact hm.pv
        · replace h : St w0 G (Ky t6 (Ob (.cells (fcell (F, mb)).toArray 88 (0, 0))) :: Ky b (Xo z (vo', vp, xp b u, vb)) :: Ky vo' (Ow 30 5 (ov.length + 1) (rcells tcell ov ++ tcell (⟨1, sp, name.2, [], []⟩, va))) :: _) W := h
          rw [e2, e1] at h
          show St w0 G (Ky b (Xo z (vo', vp, xp b u, vb)) :: Ky vo' (TkS (ov ++ [((⟨1, sp, name.2, [], o⟩ : XTk), va)])) :: Ky vp (FrS pv) :: Ky vb (Ow 5 1 z.run.length (bytesV z.run)) :: Ky PoolK.a (KqA ((va, o) :: zs)) :: Ky PoolK.b (Km ms') :: Ky v (PrS L) :: R) W
          rw [hATk.2.2.2.2, hkeep.2.2.2.2]
          exact h.to
    · refine ⟨fun W => Rec W t7 88 (fcell (F, mb)) ∧ Rec W t4 82 [strV name.1, strV name.2], ⟨h.drew.rc, h.drew.rc⟩, ?_⟩
      replace h := h.drew
      refine s_lds (cs := fcell (F, mb)) (fun w hw => hw.1) ?_
      refine a_fld0 (s_ld (t := 82) (cs := [strV name.1, strV name.2]) (fun w hw => hw.2) rfl ?_)
      refine a_fld0 (s_ld (t := 82) (cs := [strV name.1, strV name.2]) (fun w hw => hw.2) rfl ?_)
      refine ⟨?_, ?_, trivial⟩
      · refine spc _ _ _ h fun W h => ⟨⟨h.rc, h.rc⟩, ?_, ?_, trivial⟩
        · refine x_bld (cells := (tcell (⟨1, sp, name.2, [], []⟩, .slice none 0 0)).toArray) rfl ?_
          refine h.allocS fun t12 W h => ?_
          refine h.storeS (cs' := tcell (⟨1, sp, name.2, [], []⟩, .slice none 0 0)) fun W h => ?_
          exact ⟨t12, rfl, h.to⟩
        · refine h.allocS fun t12 W h => ⟨⟨h.rc, h.rc⟩, ?_⟩
          refine x_bld (cells := (tcell (⟨1, sp, name.2, [], []⟩, .slice none 0 0)).toArray) rfl ?_
          refine h.storeS (cs' := tcell (⟨1, sp, name.2, [], []⟩, .slice none 0 0)) fun W h => ?_
          exact ⟨t12, rfl, h.to⟩
      · refine h.allocS fun t12 W h => ⟨⟨h.rc, h.rc⟩, ?_⟩
        refine spc _ _ (Ky t12 (Ob (.cells [.int .i64 0, strV [], strV [], strV [], .slice none 0 0].toArray 30 (0, 0))) :: Ky t7 (Ob (.cells (fcell (F, mb)).toArray 88 (0, 0))) :: Ky t6 (Ob (.cells [strV [], strV [], .map none].toArray 88 (0, 0))) :: Ky t4 (Ob (.cells [strV name.1, strV name.2].toArray 82 (0, 0))) :: Ky vo (TkS ov) :: Ky vb (Ow 5 1 r.run.length (bytesV r.run)) :: Ky PoolK.a (KqA zs) :: Ky v (PrS L) :: R) (St.to h) fun W h => ⟨⟨h.rc, h.rc⟩, ?_⟩
        refine x_bld (cells := (tcell (⟨1, sp, name.2, [], []⟩, .slice none 0 0)).toArray) rfl ?_
        refine h.storeS (cs' := tcell (⟨1, sp, name.2, [], []⟩, .slice none 0 0)) fun W h => ?_
        exact ⟨t12, rfl, h.to⟩
end
end Go.Proofs.YtlflpbflpcmckaaDoor
