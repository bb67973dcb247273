/-
  Parts of the proofs of FeedOnce, FeedKinds, FeedMore.
-/
import Derived.Test.YtlflpbflpcmckaaGreatDoorPkFeedC
import Derived.Test.YtlflpbflpcmckaaGreatDoorProg
import Derived.Test.YtlflpbflpcmckaaGreatDoorRows
import Derived.Lib.LaidU8T
import Derived.PinnedBridge
import Derived.Lib.LaidU8
import Derived.HandedShaped
import Derived.Shelf.Vars
import Derived.LaidLaws
import Derived.Laws.StructEq
namespace Go.Proofs.YtlflpbflpcmckaaGreatDoor
open Go Go.Ez Go.RowKit Go.Lib
set_option linter.unusedSimpArgs false
set_option linter.unusedVariables false
section
variable {w0 W W' : World} {G : Nat → Prop} {l R R1 R2 : List As} {RR : Value → World → Prop} {t s pre : Txt} {b g n mb : Nat} {r : XRd} {v : Value} {f : XFr} {m : XMem} {L : List XPr} {name : Txt × Txt}
theorem attsOf_keep {f : XFr} : ∀ {l : List XPr} {o : List XAt} {r : XRd}, (XRd.attsOf f l o r).2.s = r.s ∧ (XRd.attsOf f l o r).2.at_ = r.at_ ∧ (XRd.attsOf f l o r).2.out = r.out ∧ (XRd.attsOf f l o r).2.op = r.op ∧ (XRd.attsOf f l o r).2.run = r.run
  | [], o, r => ⟨rfl, rfl, rfl, rfl, rfl⟩
  | p :: l, o, r => by
    unfold XRd.attsOf
    split
    · exact attsOf_keep
    · split
      · have h1 := attsOf_keep (f := f) (l := l) (o := o ++ [⟨(XRd.space f p.pre r).1, p.name, p.value⟩]) (r := (XRd.space f p.pre r).2)
        have h2 := space_keep f p.pre r
        exact ⟨h1.1.trans h2.1, h1.2.1.trans h2.2.1, h1.2.2.1.trans h2.2.2.1, h1.2.2.2.1.trans h2.2.2.2.1, h1.2.2.2.2.trans h2.2.2.2.2⟩
      · exact attsOf_keep
theorem begin_spec (h : St w0 G (XLs r b m (Ky v (PrS L) :: R)) W) (hm : XFit r m) (hl : m.pv.length ≤ 1000000) (hlo : m.ov.length ≤ 1000000) (hL : L.length ≤ 1000000)
    (k : ∀ mb m' W', XFit (XRd.begin_ name L r).2 m' → m'.pv = m.pv → m'.ov.length = m.ov.length + 1 → (mb, (XRd.begin_ name L r).1.spaces) ∈ m'.ms → (∀ z ∈ m.ms, z ∈ m'.ms) → St w0 G (XLs (XRd.begin_ name L r).2 b m' (Ky v (PrS L) :: R)) W' → RR (.agg (fcell ((XRd.begin_ name L r).1, mb)).toArray) W') :
    CallF Tryz.prog 77 #[.pointer (some ⟨b, 0, none⟩), .agg #[strV name.1, strV name.2], v] W RR := by
  refine sh77_calls ?_
  unfold sh77
  obtain ⟨vo, vp, vb, u, ov, pv, zs, ms⟩ := m
  simp only at *
  have ovo : Cel1 vo := .of_own (h.ow (v := vo))
  have ovp : Cel1 vp := .of_own (h.ow (v := vp))
  have ovb : Cel1 vb := .of_own (h.ow (v := vb))
  refine h.boxS (cs := [strV name.1, strV name.2]) fun t4 W h => ?_
  refine h.allocS fun t6 W h => ?_
  refine h.loadS ?_
  refine h.mapNew () fun mb W h => ?_
  refine x_bld (cells := [strV name.1, strV name.2, .map (some mb)].toArray) rfl ?_
  refine h.allocS fun t7 W h => ?_
  refine h.storeS (cs' := fcell (⟨name.1, name.2, []⟩, mb)) fun W h => ?_
  refine x_lenS (h.osl (v := v)) ?_
  generalize hSP : XRd.spacesOf L [] = SP
  have hbe : XRd.begin_ name L r = (⟨name.1, name.2, SP⟩, { (XRd.attsOf ⟨name.1, name.2, SP⟩ L [] (XRd.space ⟨name.1, name.2, SP⟩ name.1 r).2).2 with out := (XRd.attsOf ⟨name.1, name.2, SP⟩ L [] (XRd.space ⟨name.1, name.2, SP⟩ name.1 r).2).2.out ++ [⟨1, (XRd.space ⟨name.1, name.2, SP⟩ name.1 r).1, name.2, [], (XRd.attsOf ⟨name.1, name.2, SP⟩ L [] (XRd.space ⟨name.1, name.2, SP⟩ name.1 r).2).1⟩] }) := by
    rw [← hSP]; rfl
  rw [hbe] at k
  clear hbe
  refine lpx (α := Nat × Fm) (fun A => [nV .i64 A.1]) (fun A W' => A.1 ≤ L.length ∧ XRd.spacesOf (L.drop A.1) A.2 = SP ∧ St w0 G (Ky mb (Mg () A.2) :: Ky t7 (Ob (.cells (fcell (⟨name.1, name.2, []⟩, mb)).toArray 124 (0, 0))) :: Ky t6 (Ob (.cells [strV [], strV [], .map none].toArray 124 (0, 0))) :: Ky t4 (Ob (.cells [strV name.1, strV name.2].toArray 118 (0, 0))) ::
      Ky b (Xo r (vo, vp, xp b u, vb)) :: Ky vo (TkS ov) :: Ky vp (FrS pv) :: Ky vb (Ow 5 1 r.run.length (bytesV r.run)) :: Ky PoolK.a (KqA zs) :: Ky PoolK.b (Km ms) :: Ky v (PrS L) :: R) W') (fun A => L.length - A.1) (0, []) (fun _ => rfl) rfl ⟨Nat.zero_le _, hSP, h.to⟩ ?_
  clear h
  rintro next ⟨i, mm⟩ W1 hnext ⟨h1, h2, h⟩
  simp only at h1 h2 h
  refine app1 ?_
  refine a_lss (ifd (fun hc => ?_) fun hc => ?_)
  · have hi : i < L.length := by omega
    have ga : L[i]? = some L[i] := List.getElem?_eq_getElem hi
    rw [List.drop_eq_getElem_cons hi] at h2
    generalize L[i] = p at ga h2
    refine x_rcl prc_len (h.osl (v := v)) rfl ga ?_
    refine h.allocS fun t9 W h => ?_
    refine h.storeS (cs' := prc p) fun W h => ?_
    refine h.loadS ?_
    refine tells_spec (p := p) h fun W h => a_ext0 (a_ext1 ?_)
    unfold XRd.spacesOf at h2
    refine jni (fun vs W' => ∃ mm', vs = [.pointer (some ⟨b, 0, none⟩), v, .pointer (some ⟨t4, 0, none⟩), .pointer (some ⟨t6, 0, none⟩), .pointer (some ⟨t7, 0, none⟩), v, nV .i64 L.length, nV .i64 i] ∧ XRd.spacesOf (L.drop (i + 1)) mm' = SP ∧ St w0 G (Ky mb (Mg () mm') :: Ky t7 (Ob (.cells (fcell (⟨name.1, name.2, []⟩, mb)).toArray 124 (0, 0))) :: Ky t6 (Ob (.cells [strV [], strV [], .map none].toArray 124 (0, 0))) :: Ky t4 (Ob (.cells [strV name.1, strV name.2].toArray 118 (0, 0))) ::
      Ky b (Xo r (vo, vp, xp b u, vb)) :: Ky vo (TkS ov) :: Ky vp (FrS pv) :: Ky vb (Ow 5 1 r.run.length (bytesV r.run)) :: Ky PoolK.a (KqA zs) :: Ky PoolK.b (Km ms) :: Ky v (PrS L) :: R) W') ?_ ?_
    · rintro vs W _ ⟨mm', rfl, he, h⟩
      refine app8 ?_
      refine a_add64 (by omega) (by omega) ⟨rfl, rfl, rfl, rfl, rfl, rfl, rfl, ?_⟩
      rw [show ((i : Int) + 1) = ((i + 1 : Nat) : Int) by push_cast; rfl]
      exact hnext (i + 1, mm') W (by simp only; omega) ⟨by simp only; omega, he, h⟩
    · refine ifb (fun ht => ?_) fun ht => ?_
      · rw [ht] at h2
        refine a_fld0 (h.load ?_)
        refine a_fld0 (h.load ?_)
        refine h.mapPut (b := mb) (x := p.value) rfl fun W h => ?_
        exact ⟨XRd.putS mm (XRd.tells p).1 p.value, rfl, by simpa using h2, h.to⟩
      · rw [ht] at h2
        exact ⟨mm, rfl, by simpa using h2, h.to⟩
  · have hi : i = L.length := by omega
    rw [hi, List.drop_length] at h2
    have h2' : mm = SP := h2
    clear h2 hSP hnext
    rw [h2'] at h
    clear h2'
    replace h := h.kmAdd (k := PoolK.b) (b := mb)
    generalize hF : (⟨name.1, name.2, SP⟩ : XFr) = F at k
    replace h : St w0 G (Ky b (Xo r (vo, vp, xp b u, vb)) :: Ky vp (FrS pv) :: Ky PoolK.b (Km ((mb, SP) :: ms)) :: Ky t7 (Ob (.cells (fcell (F, mb)).toArray 124 (0, 0))) :: Ky t6 (Ob (.cells [strV [], strV [], .map none].toArray 124 (0, 0))) :: Ky t4 (Ob (.cells [strV name.1, strV name.2].toArray 118 (0, 0))) ::
      Ky vo (TkS ov) :: Ky vb (Ow 5 1 r.run.length (bytesV r.run)) :: Ky PoolK.a (KqA zs) :: Ky v (PrS L) :: R) W1 := by
      rw [← hF]; exact h.to
    have hFm : (mb, F.spaces) ∈ (mb, SP) :: ms := by rw [← hF]; simp
    have hms' : ∀ q ∈ pv, (q.2, q.1.spaces) ∈ (mb, SP) :: ms := fun q hq => List.mem_cons_of_mem _ (hm.pm q hq)
    have hFs : F.spaces = SP := by rw [← hF]
    generalize hMS : (mb, SP) :: ms = ms' at *
    have hsub : ∀ z ∈ ms, z ∈ ms' := fun z hz => by rw [← hMS]; exact List.mem_cons_of_mem _ hz
    have hkeep := space_keep F name.1 r
    have spc : ∀ (W : World) (K : Value → World → Prop) (X : List As), St w0 G (Ky b (Xo r (vo, vp, xp b u, vb)) :: Ky vp (FrS pv) :: Ky PoolK.b (Km ms') :: X) W → (∀ W', St w0 G (Ky b (Xo (XRd.space F name.1 r).2 (vo, vp, xp b u, vb)) :: Ky vp (FrS pv) :: Ky PoolK.b (Km ms') :: X) W' → K (strV (XRd.space F name.1 r).1) W') → CallF Tryz.prog 109 #[.pointer (some ⟨b, 0, none⟩), .agg (fcell (F, mb)).toArray, strV name.1] W K := fun W K X h hk =>
      space_spec (r := r) (f := F) (mb := mb) (pre := name.1) (pv := pv) (ms := ms') (vo := vo) (vp := vp) (vx := xp b u) (vb := vb) h hm.pv hl hms' hFm hk
    generalize XRd.space F name.1 r = Q at *
    obtain ⟨sp, q⟩ := Q
    simp only at *
    refine jni (fun vs W' => ∃ t12 : Nat, vs = [.pointer (some ⟨b, 0, none⟩), v, .pointer (some ⟨t6, 0, none⟩), .pointer (some ⟨t7, 0, none⟩), .pointer (some ⟨t12, 0, none⟩)] ∧ St w0 G (Ky t12 (Ob (.cells (tcell (⟨1, sp, name.2, [], []⟩, .slice none 0 0)).toArray 88 (0, 0))) :: Ky b (Xo q (vo, vp, xp b u, vb)) :: Ky vp (FrS pv) :: Ky PoolK.b (Km ms') :: Ky t7 (Ob (.cells (fcell (F, mb)).toArray 124 (0, 0))) :: Ky t6 (Ob (.cells [strV [], strV [], .map none].toArray 124 (0, 0))) :: Ky vo (TkS ov) :: Ky vb (Ow 5 1 r.run.length (bytesV r.run)) :: Ky PoolK.a (KqA zs) :: Ky v (PrS L) :: R) W') ?_ ?_
    · rintro vs W _ ⟨t12, rfl, h⟩
      refine app5 ?_
      refine x_lenS (h.osl (v := v)) ?_
      replace h : St w0 G (Ky (.slice none 0 0) (AtS []) :: _) W := h.nilOw
      generalize hAT : XRd.attsOf F L [] q = AT at k
      have hATk := attsOf_keep (f := F) (l := L) (o := []) (r := q)
      rw [hAT] at hATk
      refine lpx (α := Nat × List XAt × Value × XRd) (fun A => [nV .i64 A.1]) (fun A W' => A.1 ≤ L.length ∧ A.2.1.length ≤ A.1 ∧ Cel1 A.2.2.1 ∧ A.2.2.2.op = r.op ∧ XRd.attsOf F (L.drop A.1) A.2.1 A.2.2.2 = AT ∧ St w0 G (Ky A.2.2.1 (AtS A.2.1) :: Ky t12 (Ob (.cells (tcell (⟨1, sp, name.2, [], []⟩, A.2.2.1)).toArray 88 (0, 0))) :: Ky b (Xo A.2.2.2 (vo, vp, xp b u, vb)) :: Ky vp (FrS pv) :: Ky PoolK.b (Km ms') :: Ky t7 (Ob (.cells (fcell (F, mb)).toArray 124 (0, 0))) :: Ky t6 (Ob (.cells [strV [], strV [], .map none].toArray 124 (0, 0))) :: Ky vo (TkS ov) :: Ky vb (Ow 5 1 r.run.length (bytesV r.run)) :: Ky PoolK.a (KqA zs) :: Ky v (PrS L) :: R) W') (fun A => L.length - A.1) (0, [], .slice none 0 0, q) (fun _ => rfl) rfl ⟨Nat.zero_le _, Nat.le_refl _, ⟨rfl⟩, hkeep.2.2.2.1, hAT, h⟩ ?_
      clear h
      rintro next ⟨i, o, va, z⟩ W1 hnext ⟨h1, h2, ova, h3, h4, h⟩
      simp only at h1 h2 ova h3 h4 h
      refine app1 ?_
      refine a_lss (ifd (fun hc => ?_) fun hc => ?_)
      · have hi : i < L.length := by omega
        have ga : L[i]? = some L[i] := List.getElem?_eq_getElem hi
        rw [List.drop_eq_getElem_cons hi] at h4
        generalize L[i] = p at ga h4
        refine jni (fun vs W' => ∃ (o' : List XAt) (va' : Value) (z' : XRd), vs = [.pointer (some ⟨b, 0, none⟩), .pointer (some ⟨t6, 0, none⟩), .pointer (some ⟨t7, 0, none⟩), .pointer (some ⟨t12, 0, none⟩), v, nV .i64 L.length, nV .i64 i] ∧ o'.length ≤ i + 1 ∧ Cel1 va' ∧ z'.op = r.op ∧ XRd.attsOf F (L.drop (i + 1)) o' z' = AT ∧ St w0 G (Ky va' (AtS o') :: Ky t12 (Ob (.cells (tcell (⟨1, sp, name.2, [], []⟩, va')).toArray 88 (0, 0))) :: Ky b (Xo z' (vo, vp, xp b u, vb)) :: Ky vp (FrS pv) :: Ky PoolK.b (Km ms') :: Ky t7 (Ob (.cells (fcell (F, mb)).toArray 124 (0, 0))) :: Ky t6 (Ob (.cells [strV [], strV [], .map none].toArray 124 (0, 0))) :: Ky vo (TkS ov) :: Ky vb (Ow 5 1 r.run.length (bytesV r.run)) :: Ky PoolK.a (KqA zs) :: Ky v (PrS L) :: R) W') ?_ ?_
        · rintro vs W _ ⟨o', va', z', rfl, g1, g2, g3, g4, h⟩
          refine app7 ?_
          refine a_add64 (by omega) (by omega) ⟨rfl, rfl, rfl, rfl, rfl, rfl, ?_⟩
          rw [show ((i : Int) + 1) = ((i + 1 : Nat) : Int) by push_cast; rfl]
          exact hnext (i + 1, o', va', z') W (by simp only; omega) ⟨by simp only; omega, g1, g2, g3, g4, h⟩
        · refine x_rcl prc_len (h.osl (v := v)) rfl ga ?_
          refine h.allocS fun t14 W h => ?_
          refine h.storeS (cs' := prc p) fun W h => ?_
          refine h.loadS ?_
          refine tells_spec (p := p) h fun W h => a_ext0 (a_ext1 ?_)
          unfold XRd.attsOf at h4
          refine ifb (fun ht => ?_) fun ht => ?_
          · rw [if_pos ht] at h4
            exact ⟨o, va, z, rfl, by omega, ova, h3, h4, h.to⟩
          rw [if_neg (by rw [ht]; decide)] at h4
          refine a_fld0 (a_fld (o := 0) ?_)
          dsimp only [Nat.reduceAdd]
          refine h.load ?_
          refine a_fld0 (h.load ?_)
          refine x_bld (cells := (atc ⟨[], p.name, p.value⟩).toArray) rfl ?_
          refine h.allocS fun t17 W h => ?_
          refine h.storeS (cs' := atc ⟨[], p.name, p.value⟩) fun W h => ?_
          refine jni (fun vs W' => ∃ (a : XAt) (z' : XRd), vs = [.pointer (some ⟨b, 0, none⟩), .pointer (some ⟨t6, 0, none⟩), .pointer (some ⟨t7, 0, none⟩), .pointer (some ⟨t12, 0, none⟩), .pointer (some ⟨t17, 0, none⟩), v, nV .i64 L.length, nV .i64 i] ∧ z'.op = r.op ∧ XRd.attsOf F (L.drop (i + 1)) (o ++ [a]) z' = AT ∧ St w0 G (Ky t17 (Ob (.cells (atc a).toArray 158 (0, 0))) :: Ky va (AtS o) :: Ky t12 (Ob (.cells (tcell (⟨1, sp, name.2, [], []⟩, va)).toArray 88 (0, 0))) :: Ky b (Xo z' (vo, vp, xp b u, vb)) :: Ky vp (FrS pv) :: Ky PoolK.b (Km ms') :: Ky t7 (Ob (.cells (fcell (F, mb)).toArray 124 (0, 0))) :: Ky t6 (Ob (.cells [strV [], strV [], .map none].toArray 124 (0, 0))) :: Ky vo (TkS ov) :: Ky vb (Ow 5 1 r.run.length (bytesV r.run)) :: Ky PoolK.a (KqA zs) :: Ky v (PrS L) :: R) W') ?_ ?_
          · rintro vs W _ ⟨a, z', rfl, g3, g4, h⟩
            refine app8 ?_
            refine a_fld0 (h.load ?_)
            refine h.loadS ?_
            refine h.lit fun uu W ou h => ?_
            refine h.app (v := va) (h.osl (v := uu)) (by intro a ha; simp only [List.mem_cons, List.not_mem_nil, or_false] at ha; rcases ha with rfl | rfl | rfl <;> rfl) (by unfold maxLen; omega) (by omega) fun va' W o' h _ => ?_
            refine a_fld0 (h.store fun W h => ?_)
            rw [show rcells atc o ++ [strV a.space, strV a.name, strV a.value] = rcells atc (o ++ [a]) by rw [rc_append, rc_single], show o.length + 1 = (o ++ [a]).length by simp] at h
            exact ⟨o ++ [a], va', z', rfl, by rw [List.length_append, List.length_singleton]; omega, o', g3, g4, h.to⟩
          · refine a_fld0 (a_fld (o := 0) ?_)
            dsimp only [Nat.reduceAdd]
            refine h.load ?_
            refine w_neqL (ifd (fun hne => ?_) fun hne => ?_)
            · rw [if_pos hne] at h4
              refine h.loadS ?_
              refine a_fld0 (a_fld (o := 0) ?_)
              dsimp only [Nat.reduceAdd]
              refine h.load ?_
              refine space_spec (r := z) (f := F) (mb := mb) (pre := p.pre) (pv := pv) (ms := ms') (vo := vo) (vp := vp) (vx := xp b u) (vb := vb) h (hm.pv.trans h3.symm) hl hms' hFm fun W h => ?_
              have hzk := space_keep F p.pre z
              generalize XRd.space F p.pre z = Y at *
              obtain ⟨ys, y⟩ := Y
              simp only at *
              refine a_fld0 (h.store fun W h => ?_)
              exact ⟨⟨ys, p.name, p.value⟩, y, rfl, hzk.2.2.2.1.trans h3, h4, h.to⟩
            · rw [if_neg hne] at h4
              exact ⟨⟨[], p.name, p.value⟩, z, rfl, h3, h4, h.to⟩
      · have hi : i = L.length := by omega
        rw [hi, List.drop_length] at h4
        have h4' : AT = (o, z) := h4.symm
        clear h4 hnext
        rw [h4'] at hATk k
        simp only at hATk k
        replace h := h.kqAdd (k := PoolK.a) (v := va) (xs := o) rfl rfl
        refine ⟨fun W => Rec W b 83 (xcells z (vo, vp, xp b u, vb)) ∧ Rec W t12 88 (tcell (⟨1, sp, name.2, [], []⟩, va)), ⟨h.drew.rc, h.drew.rc⟩, ?_⟩
        replace h := h.drew
        refine a_nil (a_fld0 (s_ld (t := 83) (cs := xcells z (vo, vp, xp b u, vb)) (fun w hw => hw.1) rfl ?_))
        refine s_lds (cs := tcell (⟨1, sp, name.2, [], []⟩, va)) (fun w hw => hw.2) ?_
        refine h.lit fun uu W ou h => ?_
        refine ⟨⟨h.rc, h.rc⟩, ?_⟩
        refine h.app (v := vo) (h.osl (v := uu)) (by intro a ha; simp only [List.mem_cons, List.not_mem_nil, or_false] at ha; rcases ha with rfl | rfl | rfl | rfl | rfl; rfl; rfl; rfl; rfl; exact ova.one) (by unfold maxLen; omega) (by omega) fun vo' W o' h _ => ?_
        refine a_nil (a_fld0 (h.store fun W h => ?_))
        refine h.loadS ?_
        refine h.storeS (cs' := fcell (F, mb)) fun W h => ?_
        refine h.loadS ?_
        have e1 : ov.length + 1 = (ov ++ [((⟨1, sp, name.2, [], o⟩ : XTk), va)]).length := by simp
        have e2 : rcells tcell ov ++ tcell (⟨1, sp, name.2, [], []⟩, va) = rcells tcell (ov ++ [((⟨1, sp, name.2, [], o⟩ : XTk), va)]) := by rw [rc_append, rc_single]
        refine k mb ⟨vo', vp, vb, u, ov ++ [((⟨1, sp, name.2, [], o⟩ : XTk), va)], pv, (va, o) :: zs, ms'⟩ W ⟨?_, ?_, ?_, hms'⟩ rfl (by simp) hFm hsub ?_
        · show (ov ++ _).map Prod.fst = z.out ++ _
          rw [List.map_append, hATk.2.2.1, hkeep.2.2.1, ← hm.ov]; rfl
        · intro p hp
          rcases List.mem_append.1 hp with hp | hp
          · exact ⟨(hm.oz p hp).1.sub fun z hz => List.mem_cons_of_mem _ hz, (hm.oz p hp).2⟩
          · rw [List.mem_singleton.1 hp]
            exact ⟨.inl (List.mem_cons_self ..), ova.one⟩
        · show pv.map Prod.fst = z.op
          rw [h3]; exact hm.pv
        · replace h : St w0 G (Ky t6 (Ob (.cells (fcell (F, mb)).toArray 124 (0, 0))) :: Ky b (Xo z (vo', vp, xp b u, vb)) :: Ky vo' (Ow 88 5 (ov.length + 1) (rcells tcell ov ++ tcell (⟨1, sp, name.2, [], []⟩, va))) :: _) W := h
          rw [e2, e1] at h
          show St w0 G (Ky b (Xo z (vo', vp, xp b u, vb)) :: Ky vo' (TkS (ov ++ [((⟨1, sp, name.2, [], o⟩ : XTk), va)])) :: Ky vp (FrS pv) :: Ky vb (Ow 5 1 z.run.length (bytesV z.run)) :: Ky PoolK.a (KqA ((va, o) :: zs)) :: Ky PoolK.b (Km ms') :: Ky v (PrS L) :: R) W
          rw [hATk.2.2.2.2, hkeep.2.2.2.2]
          exact h.to
    · refine ⟨fun W => Rec W t7 124 (fcell (F, mb)) ∧ Rec W t4 118 [strV name.1, strV name.2], ⟨h.drew.rc, h.drew.rc⟩, ?_⟩
      replace h := h.drew
      refine s_lds (cs := fcell (F, mb)) (fun w hw => hw.1) ?_
      refine a_fld0 (s_ld (t := 118) (cs := [strV name.1, strV name.2]) (fun w hw => hw.2) rfl ?_)
      refine a_fld0 (s_ld (t := 118) (cs := [strV name.1, strV name.2]) (fun w hw => hw.2) rfl ?_)
      refine ⟨?_, ?_, trivial⟩
      · refine spc _ _ _ h fun W h => ⟨⟨h.rc, h.rc⟩, ?_, ?_, trivial⟩
        · refine x_bld (cells := (tcell (⟨1, sp, name.2, [], []⟩, .slice none 0 0)).toArray) rfl ?_
          refine h.allocS fun t12 W h => ?_
          refine h.storeS (cs' := tcell (⟨1, sp, name.2, [], []⟩, .slice none 0 0)) fun W h => ?_
          exact ⟨t12, rfl, h.to⟩
        · refine h.allocS fun t12 W h => ⟨⟨h.rc, h.rc⟩, ?_⟩
          refine x_bld (cells := (tcell (⟨1, sp, name.2, [], []⟩, .slice none 0 0)).toArray) rfl ?_
          refine h.storeS (cs' := tcell (⟨1, sp, name.2, [], []⟩, .slice none 0 0)) fun W h => ?_
          exact ⟨t12, rfl, h.to⟩
      · refine h.allocS fun t12 W h => ⟨⟨h.rc, h.rc⟩, ?_⟩
        refine spc _ _ (Ky t12 (Ob (.cells [.int .i64 0, strV [], strV [], strV [], .slice none 0 0].toArray 88 (0, 0))) :: Ky t7 (Ob (.cells (fcell (F, mb)).toArray 124 (0, 0))) :: Ky t6 (Ob (.cells [strV [], strV [], .map none].toArray 124 (0, 0))) :: Ky t4 (Ob (.cells [strV name.1, strV name.2].toArray 118 (0, 0))) :: Ky vo (TkS ov) :: Ky vb (Ow 5 1 r.run.length (bytesV r.run)) :: Ky PoolK.a (KqA zs) :: Ky v (PrS L) :: R) (St.to h) fun W h => ⟨⟨h.rc, h.rc⟩, ?_⟩
        refine x_bld (cells := (tcell (⟨1, sp, name.2, [], []⟩, .slice none 0 0)).toArray) rfl ?_
        refine h.storeS (cs' := tcell (⟨1, sp, name.2, [], []⟩, .slice none 0 0)) fun W h => ?_
        exact ⟨t12, rfl, h.to⟩
end
end Go.Proofs.YtlflpbflpcmckaaGreatDoor
namespace Go.Proofs.YtlflpbflpcmckaaGreatDoor
open Go Go.Ez Go.RowKit Go.Lib
set_option linter.unusedSimpArgs false
set_option linter.unusedVariables false
section
variable {w0 W W' : World} {G : Nat → Prop} {l R R1 R2 : List As} {RR : Value → World → Prop} {t s pre : Txt} {b g n mb : Nat} {r : XRd} {v : Value} {f : XFr} {m : XMem} {L : List XPr} {name : Txt × Txt}
theorem attrsGo_len {dec : Txt → Int × Nat} {sgn : Int → Txt × Bool} : ∀ (f : Nat) (l : List XPr) (r : XRd), (XRd.attrsGo dec sgn f l r).1.length ≤ l.length + f
  | 0, l, r => Nat.le_refl _
  | f + 1, l, r => by
    unfold XRd.attrsGo
    split
    · exact Nat.le_add_right _ _
    · dsimp only
      split
      · exact Nat.le_add_right _ _
      · split
        · exact Nat.le_trans (attrsGo_len f l _) (by omega)
        · refine Nat.le_trans (attrsGo_len f _ _) ?_
          rw [List.length_append, List.length_singleton]; omega
theorem XFit.olen (h : XFit r m) : m.ov.length = r.out.length := by rw [← h.ov, List.length_map]
theorem XFit.plen (h : XFit r m) : m.pv.length = r.op.length := by rw [← h.pv, List.length_map]
theorem xls_of {q : XRd} (hr : q.run = r.run) (h : St w0 G (Ky b (Xo q (xc b m)) :: Ky m.vo (TkS m.ov) :: Ky m.vp (FrS m.pv) :: Ky m.vb (Ow 5 1 r.run.length (bytesV r.run)) :: Ky PoolK.a (KqA m.zs) :: Ky PoolK.b (Km m.ms) :: R) W) : St w0 G (XLs q b m R) W := by
  show St w0 G (Ky b (Xo q (xc b m)) :: Ky m.vo (TkS m.ov) :: Ky m.vp (FrS m.pv) :: Ky m.vb (Ow 5 1 q.run.length (bytesV q.run)) :: Ky PoolK.a (KqA m.zs) :: Ky PoolK.b (Km m.ms) :: R) W
  rw [hr]; exact h
theorem element_spec (hT : XTabs w0) (h : St w0 G0 (XLs r b m R) W) (hm : XFit r m) (hle : r.at_ + 1 ≤ r.s.length) (hs : r.s.length ≤ 30000) (hop : r.op.length ≤ 1000) (hout : r.out.length ≤ 900000)
    (k : ∀ m' W', XFit (XRd.element decX signS r) m' → St w0 G0 (XLs (XRd.element decX signS r) b m' R) W' → RR (.tuple #[]) W') : CallF Tryz.prog 43 #[.pointer (some ⟨b, 0, none⟩)] W RR := by
  refine sh43_calls ?_
  unfold sh43
  have holen := hm.olen
  have hplen := hm.plen
  obtain ⟨vo, vp, vb, u, ov, pv, zs, ms⟩ := m
  simp only at *
  have ovo : Cel1 vo := .of_own (h.ow (v := vo))
  have ovp : Cel1 vp := .of_own (h.ow (v := vp))
  have ovb : Cel1 vb := .of_own (h.ow (v := vb))
  unfold XRd.element at k
  dsimp only at k
  refine a_nil (a_fld0 (h.load ?_))
  refine a_add64 (by omega) (by omega) ?_
  refine a_nil (a_fld0 (h.store fun W h => ?_))
  replace h : St w0 G0 (Ky b (Xo (r.on 1) (vo, vp, xp b u, vb)) :: Ky vo (TkS ov) :: Ky vp (FrS pv) :: Ky vb (Ow 5 1 r.run.length (bytesV r.run)) :: Ky PoolK.a (KqA zs) :: Ky PoolK.b (Km ms) :: R) W := h
  have hst1 := XRd.stp_on (r := r) (n := 1) hle
  have hq : (r.on 1).at_ ≤ (r.on 1).s.length := hle
  generalize r.on 1 = q at *
  have hql : q.s.length = r.s.length := by rw [hst1.s]
  refine a_nil (a_fld0 (h.load ?_))
  refine x_lenS (h.osl (v := vp)) ?_
  have hqop : q.op.length = pv.length := by rw [hst1.op, hplen]
  refine a_geq (ifd (fun hc => ?_) fun hc => ?_)
  · rw [if_pos (by omega)] at k
    refine fail_spec (r := q) (c := (vo, vp, xp b u, vb)) h fun W h => ?_
    have hf := hst1.trans (XRd.stp_fail (c := 10) (by decide) hst1.ok.lt)
    exact k ⟨vo, vp, vb, u, ov, pv, zs, ms⟩ W (hm.same hf.out hf.op) (xls_of (m := ⟨vo, vp, vb, u, ov, pv, zs, ms⟩) hf.run h)
  rw [if_neg (by omega)] at k
  have hst2 := XRd.stp_full hq
  refine full_spec (r := q) (c := (vo, vp, xp b u, vb)) h hq (by omega) fun W h => ?_
  generalize q.full = F at *
  obtain ⟨⟨f1, f2⟩, q2⟩ := F
  simp only at *
  refine h.allocS fun t2 W h => ?_
  refine h.storeS (cs' := [strV f1, strV f2]) fun W h => ?_
  have hst12 := hst1.trans hst2
  have hst3 := XRd.stp_attrs (dec := decX) (sgn := signS) decX_ok hst2.ok
  refine attrs_spec hT (r := q2) (c := (vo, vp, xp b u, vb)) h hst2.ok (by rw [hst12.s]; exact hs) fun v3 W o3 h => ?_
  have hAl : (XRd.attrs decX signS q2).1.length ≤ 1000000 := by
    have h1 := attrsGo_len (dec := decX) (sgn := signS) (q2.s.length + 3) [] q2
    have h2 : q2.s.length = r.s.length := by rw [hst12.s]
    unfold XRd.attrs
    rw [List.length_nil] at h1
    omega
  generalize XRd.attrs decX signS q2 = A at *
  obtain ⟨L, q3⟩ := A
  simp only at *
  have hst13 := hst12.trans hst3
  refine a_nil (a_fld0 (h.load ?_))
  refine w_neq (ifd (fun he => ?_) fun he => ?_)
  · rw [if_pos he] at k
    exact k ⟨vo, vp, vb, u, ov, pv, zs, ms⟩ W (hm.same hst13.out hst13.op) (xls_of (m := ⟨vo, vp, vb, u, ov, pv, zs, ms⟩) hst13.run h.to)
  rw [if_neg he] at k
  have hst4 := XRd.stp_see (n := 0) hst3.ok
  refine see_spec (n := 0) (r := q3) (c := (vo, vp, xp b u, vb)) h hst3.ok (by rw [hst13.s]; omega) (by decide) fun W h => ?_
  have hY : ∀ y, (if (q3.see 0).1 = 47 then (q3.see 0).2.on 1 else (q3.see 0).2) = y → XRd.Stp q3 y := fun y hy => by
    rw [← hy]
    split
    · rename_i h47
      obtain ⟨x, hx, e⟩ := XRd.see_c (r := q3) (n := 0) (by rw [h47]; decide)
      have := XRd.lt_of_at hx
      rw [e]
      exact XRd.stp_on (by omega)
    · exact hst4
  have h47 : (q3.see 0).1 = 47 → (q3.see 0).2 = q3 ∧ q3.at_ < q3.s.length := fun h47 => by
    obtain ⟨x, hx, e⟩ := XRd.see_c (r := q3) (n := 0) (by rw [h47]; decide)
    rw [e]
    exact ⟨rfl, XRd.lt_of_at hx⟩
  generalize q3.see 0 = X at *
  obtain ⟨x, q4⟩ := X
  simp only at *
  refine w_eqC 47 rfl ?_
  generalize hy : (if x = 47 then q4.on 1 else q4) = y at *
  have hst5 := hst13.trans (hY y rfl)
  refine jni (fun vs W' => vs = [.pointer (some ⟨b, 0, none⟩), .pointer (some ⟨t2, 0, none⟩), v3, .bool (decide (x = 47))] ∧ St w0 G0 (Ky b (Xo y (vo, vp, xp b u, vb)) :: Ky v3 (PrS L) :: Ky t2 (Ob (.cells [strV f1, strV f2].toArray 118 (0, 0))) :: Ky vo (TkS ov) :: Ky vp (FrS pv) :: Ky vb (Ow 5 1 r.run.length (bytesV r.run)) :: Ky PoolK.a (KqA zs) :: Ky PoolK.b (Km ms) :: R) W') ?_ ?_
  · rintro vs W _ ⟨rfl, h⟩
    refine app4 ?_
    refine wants_spec (p := [62]) (r := y) (c := (vo, vp, xp b u, vb)) h hst5.ok (by rw [hst5.s]; omega) (by decide) fun W h => ?_
    have hst6 := hst5.trans (XRd.stp_wants (p := [62]) hst5.ok)
    generalize XRd.wants [62] y = z at *
    refine a_nil (a_fld0 (h.load ?_))
    refine w_neq (ifd (fun he => ?_) fun he => ?_)
    · rw [if_pos he] at k
      exact k ⟨vo, vp, vb, u, ov, pv, zs, ms⟩ W (hm.same hst6.out hst6.op) (xls_of (m := ⟨vo, vp, vb, u, ov, pv, zs, ms⟩) hst6.run h.to)
    rw [if_neg he] at k
    refine h.loadS ?_
    have hfit : XFit z ⟨vo, vp, vb, u, ov, pv, zs, ms⟩ := hm.same hst6.out hst6.op
    refine begin_spec (r := z) (name := (f1, f2)) (m := ⟨vo, vp, vb, u, ov, pv, zs, ms⟩) (L := L) (v := v3) (R := Ky t2 (Ob (.cells [strV f1, strV f2].toArray 118 (0, 0))) :: R) (xls_of (m := ⟨vo, vp, vb, u, ov, pv, zs, ms⟩) hst6.run h.to) hfit (by show pv.length ≤ _; omega) (by show ov.length ≤ _; omega) hAl fun mb m' W hm' hpv' hov' hmb hsub h => ?_
    have hpl := hm'.plen
    have hol := hm'.olen
    generalize XRd.begin_ (f1, f2) L z = B at *
    obtain ⟨fr, z1⟩ := B
    simp only at *
    refine h.allocS fun t5 W h => ?_
    refine h.storeS (cs' := fcell (fr, mb)) fun W h => ?_
    refine ifd (fun hx => ?_) fun hx => ?_
    · rw [if_pos hx] at k
      refine h.loadS ?_
      refine close_spec (r := z1) (m := m') (f := fr) (mb := mb) (R := Ky t5 (Ob (.cells (fcell (fr, mb)).toArray 124 (0, 0))) :: Ky v3 (PrS L) :: Ky t2 (Ob (.cells [strV f1, strV f2].toArray 118 (0, 0))) :: R) h.to hm' (by rw [hpv']; omega) (by omega) hmb fun m'' W hm'' _ _ _ h => ?_
      exact k m'' W hm'' h.to
    · rw [if_neg hx] at k
      obtain ⟨vo', vp', vb', u', ov', pv', zs', ms'⟩ := m'
      simp only at *
      have hpvl : pv'.length = pv.length := by rw [hpv']
      have ovo : Cel1 vo' := .of_own (h.ow (v := vo'))
      have ovp : Cel1 vp' := .of_own (h.ow (v := vp'))
      have ovb : Cel1 vb' := .of_own (h.ow (v := vb'))
      refine ⟨fun W => Rec W b 83 (xcells z1 (vo', vp', xp b u', vb')) ∧ Rec W t5 124 (fcell (fr, mb)), ⟨h.drew.rc, h.drew.rc⟩, ?_⟩
      replace h := h.drew
      refine a_nil (a_fld0 (s_ld (t := 83) (cs := xcells z1 (vo', vp', xp b u', vb')) (fun w hw => hw.1) rfl ?_))
      refine s_lds (cs := fcell (fr, mb)) (fun w hw => hw.2) ?_
      refine h.lit fun uu W ou h => ?_
      refine ⟨⟨h.rc, h.rc⟩, ?_⟩
      refine h.app (v := vp') (h.osl (v := uu)) (by intro a ha; simp only [List.mem_cons, List.not_mem_nil, or_false] at ha; rcases ha with rfl | rfl | rfl <;> rfl) (by (try dsimp only); unfold maxLen; omega) (by (try dsimp only); omega) fun vp2 W o2 h _ => ?_
      refine a_nil (a_fld0 (h.store fun W h => ?_))
      have e1 : pv'.length + 1 = (pv' ++ [(fr, mb)]).length := by simp
      have e2 : rcells fcell pv' ++ fcell (fr, mb) = rcells fcell (pv' ++ [(fr, mb)]) := by rw [rc_append, rc_single]
      refine k ⟨vo', vp2, vb', u', ov', pv' ++ [(fr, mb)], zs', ms'⟩ W ⟨hm'.ov, hm'.oz, ?_, ?_⟩ ?_
      · show (pv' ++ [(fr, mb)]).map Prod.fst = z1.op ++ [fr]
        rw [List.map_append, hm'.pv]; rfl
      · intro q hq
        rcases List.mem_append.1 hq with hq | hq
        · exact hm'.pm q hq
        · rw [List.mem_singleton.1 hq]; exact hmb
      · replace h : St w0 G0 (Ky b (Xo z1 (vo', vp2, xp b u', vb')) :: Ky vp2 (Ow 124 3 (pv'.length + 1) (rcells fcell pv' ++ fcell (fr, mb))) :: _) W := h
        rw [e2, e1] at h
        show St w0 G0 (Ky b (Xo z1 (vo', vp2, xp b u', vb')) :: Ky vo' (TkS ov') :: Ky vp2 (FrS (pv' ++ [(fr, mb)])) :: Ky vb' (Ow 5 1 z1.run.length (bytesV z1.run)) :: Ky PoolK.a (KqA zs') :: Ky PoolK.b (Km ms') :: R) W
        exact h.to
  · refine ifd (fun hx => ?_) fun hx => ?_
    · obtain ⟨e4, hlt⟩ := h47 hx
      rw [if_pos hx] at hy
      rw [← hy]
      have : q4.at_ ≤ 30000 := by rw [e4]; have := hst13.s; rw [this] at hlt; omega
      refine a_nil (a_fld0 (h.load ?_))
      refine a_add64 (by omega) (by omega) ?_
      refine a_nil (a_fld0 (h.store fun W h => ?_))
      replace h : St w0 G0 (Ky b (Xo (q4.on 1) (vo, vp, xp b u, vb)) :: _) W := h
      exact ⟨rfl, h.to⟩
    · rw [if_neg hx] at hy
      rw [← hy]
      exact ⟨rfl, h.to⟩
/-- an element's end -/
theorem end_spec (hT : XTabs w0) (h : St w0 G0 (XLs r b m R) W) (hm : XFit r m) (hle : r.at_ + 2 ≤ r.s.length) (hs : r.s.length ≤ 30000) (hne : r.op ≠ []) (hop : r.op.length ≤ 1000) (hout : r.out.length ≤ 900000)
    (k : ∀ m' W', XFit (XRd.end_ r) m' → St w0 G0 (XLs (XRd.end_ r) b m' R) W' → RR (.tuple #[]) W') : CallF Tryz.prog 83 #[.pointer (some ⟨b, 0, none⟩)] W RR := by
  refine sh83_calls ?_
  unfold sh83
  have holen := hm.olen
  have hplen := hm.plen
  obtain ⟨vo, vp, vb, u, ov, pv, zs, ms⟩ := m
  simp only at *
  have ovo : Cel1 vo := .of_own (h.ow (v := vo))
  have ovp : Cel1 vp := .of_own (h.ow (v := vp))
  have ovb : Cel1 vb := .of_own (h.ow (v := vb))
  obtain ⟨pv', ⟨f, mb⟩, hpv⟩ : ∃ pv' x, pv = pv' ++ [x] := by
    have : pv ≠ [] := fun e => hne (by have := hm.pv; simp only [e] at this; exact this.symm)
    exact ⟨pv.dropLast, pv.getLast this, (List.dropLast_concat_getLast this).symm⟩
  have hopf : r.op = pv'.map Prod.fst ++ [f] := by rw [← hm.pv, hpv, List.map_append]; rfl
  have hfm : (mb, f.spaces) ∈ ms := hm.pm (f, mb) (by rw [hpv]; simp)
  have hpl : pv.length = pv'.length + 1 := by rw [hpv]; simp
  unfold XRd.end_ at k
  dsimp only at k
  refine a_nil (a_fld0 (h.load ?_))
  refine a_add64 (by omega) (by omega) ?_
  refine a_nil (a_fld0 (h.store fun W h => ?_))
  replace h : St w0 G0 (Ky b (Xo (r.on 2) (vo, vp, xp b u, vb)) :: Ky vo (TkS ov) :: Ky vp (FrS pv) :: Ky vb (Ow 5 1 r.run.length (bytesV r.run)) :: Ky PoolK.a (KqA zs) :: Ky PoolK.b (Km ms) :: R) W := h
  have hst1 := XRd.stp_on (r := r) (n := 2) hle
  have hq : (r.on 2).at_ ≤ (r.on 2).s.length := hle
  have hlast : (r.on 2).op.getLastD default = f := by show r.op.getLastD default = f; rw [hopf]; simp
  rw [hlast] at k
  generalize r.on 2 = q at *
  have hql : q.s.length = r.s.length := by rw [hst1.s]
  refine a_nil (a_fld0 (h.load ?_))
  refine x_lenS (h.osl (v := vp)) ?_
  refine a_sub64 (by omega) (by omega) ?_
  rw [show ((pv.length : Int) - 1) = ((pv'.length : Nat) : Int) by omega]
  refine a_nil (a_fld0 (h.load ?_))
  refine x_rcl (a := (f, mb)) fcell_len (h.osl (v := vp)) rfl (by rw [hpv, List.getElem?_append_right (Nat.le_refl _), Nat.sub_self]; rfl) ?_
  refine h.allocS fun t3 W h => ?_
  refine h.storeS (cs' := fcell (f, mb)) fun W h => ?_
  have hst2 := XRd.stp_full hq
  refine full_spec (r := q) (c := (vo, vp, xp b u, vb)) h hq (by omega) fun W h => ?_
  generalize q.full = F at *
  obtain ⟨⟨f1, f2⟩, q2⟩ := F
  simp only at *
  refine h.allocS fun t4 W h => ?_
  refine h.storeS (cs' := [strV f1, strV f2]) fun W h => ?_
  have hst12 := hst1.trans hst2
  generalize hF : q2.failIf (decide (q2.e = 0 ∧ ¬ (f1 = f.pre ∧ f2 = f.name))) 4 = z at k
  have hst3 : XRd.Stp r z := by rw [← hF]; exact hst12.trans (XRd.stp_failIf (by decide) hst12.ok)
  refine jni (fun vs W' => vs = [.pointer (some ⟨b, 0, none⟩), nV .i64 pv'.length, .pointer (some ⟨t3, 0, none⟩)] ∧ St w0 G0 (Ky b (Xo z (vo, vp, xp b u, vb)) :: Ky t3 (Ob (.cells (fcell (f, mb)).toArray 124 (0, 0))) :: Ky vo (TkS ov) :: Ky vp (FrS pv) :: Ky vb (Ow 5 1 r.run.length (bytesV r.run)) :: Ky PoolK.a (KqA zs) :: Ky PoolK.b (Km ms) :: R) W') ?_ ?_
  · rintro vs W _ ⟨rfl, h⟩
    refine app3 ?_
    refine blanks_spec (r := z) (c := (vo, vp, xp b u, vb)) h hst3.ok (by rw [hst3.s]; omega) fun W h => ?_
    have hst4 := hst3.trans (XRd.stp_blanks hst3.ok)
    refine wants_spec (p := [62]) (r := z.blanks.2) (c := (vo, vp, xp b u, vb)) h hst4.ok (by rw [hst4.s]; omega) (by decide) fun W h => ?_
    have hst5 := hst4.trans (XRd.stp_wants (p := [62]) hst4.ok)
    generalize XRd.wants [62] z.blanks.2 = y at *
    refine a_nil (a_fld0 (h.load ?_))
    refine w_eql (ifd (fun he => ?_) fun he => ?_)
    · rw [if_pos he] at k
      refine h.loadS ?_
      have hfit : XFit y ⟨vo, vp, vb, u, ov, pv, zs, ms⟩ := hm.same hst5.out hst5.op
      refine close_spec (r := y) (m := ⟨vo, vp, vb, u, ov, pv, zs, ms⟩) (f := f) (mb := mb) (R := Ky t3 (Ob (.cells (fcell (f, mb)).toArray 124 (0, 0))) :: R) (xls_of (m := ⟨vo, vp, vb, u, ov, pv, zs, ms⟩) hst5.run h.to) hfit (by show pv.length ≤ _; omega) (by show ov.length ≤ _; omega) hfm fun m' W hm' hpv' _ _ h9 => ?_
      obtain ⟨vo', vp', vb', u', ov', pv2, zs', ms'⟩ := m'
      simp only at *
      subst hpv'
      have h := h9
      clear h9
      have ovo : Cel1 vo' := .of_own (h.ow (v := vo'))
      have ovp : Cel1 vp' := .of_own (h.ow (v := vp'))
      have ovb : Cel1 vb' := .of_own (h.ow (v := vb'))
      have hclop : (XRd.close f y).op = r.op := by
        show (XRd.space f f.pre y).2.op = r.op
        rw [(space_keep f f.pre y).2.2.2.1, hst5.op]
      generalize XRd.close f y = cl at *
      refine a_nil (a_fld0 (h.load ?_))
      refine x_cutOw (v := vp') (k := pv'.length) h (by (try dsimp only); omega) ?_
      have hcut : Cel1 (cutV vp' pv'.length) := by
        have h2 := h.cutOw (v := vp') (k := pv'.length) (by (try dsimp only); omega)
        exact .of_own (h2.ow (v := cutV vp' pv'.length))
      refine a_nil (a_fld0 (h.store fun W h => ?_))
      replace h := h.cutOw (v := vp') (k := pv'.length) (by (try dsimp only); omega)
      have e2 : (rcells fcell pv2).take (pv'.length * 3) = rcells fcell pv' := by
        rw [← rc_take fcell_len, hpv, List.take_left]
      rw [e2] at h
      refine k ⟨vo', cutV vp' pv'.length, vb', u', ov', pv', zs', ms'⟩ W ⟨hm'.ov, hm'.oz, ?_, fun q hq => hm'.pm q (by rw [hpv]; exact List.mem_append_left _ hq)⟩ ?_
      · show pv'.map Prod.fst = cl.op.dropLast
        rw [hclop, hopf, List.dropLast_concat]
      · show St w0 G0 (Ky b (Xo cl (vo', cutV vp' pv'.length, xp b u', vb')) :: Ky vo' (TkS ov') :: Ky (cutV vp' pv'.length) (FrS pv') :: Ky vb' (Ow 5 1 cl.run.length (bytesV cl.run)) :: Ky PoolK.a (KqA zs') :: Ky PoolK.b (Km ms') :: R) W
        replace h : St w0 G0 (Ky (cutV vp' pv'.length) (FrS pv') :: Ky b (Xo cl (vo', cutV vp' pv'.length, xp b u', vb')) :: _) W := h
        exact h.to
    · rw [if_neg he] at k
      exact k ⟨vo, vp, vb, u, ov, pv, zs, ms⟩ W (hm.same hst5.out hst5.op) (xls_of (m := ⟨vo, vp, vb, u, ov, pv, zs, ms⟩) hst5.run h.to)
  · refine a_nil (a_fld0 (h.load ?_))
    refine w_eql (ifd (fun he => ?_) fun he => ?_)
    · refine h.loadS ?_
      refine a_fld0 (St.loadP (b := t3) (o := 0) (t := 124) (all := fcell (f, mb)) (cs := [strV f.pre, strV f.name]) h (fun j u hj => ?_) ?_)
      · rw [Nat.zero_add]; match j, hj with
        | 0, hj => exact hj
        | 1, hj => exact hj
      refine w_neFull (ifnb (fun hn => ?_) fun hn => ?_)
      · refine fail_spec (r := q2) (c := (vo, vp, xp b u, vb)) h fun W h => ⟨rfl, ?_⟩
        rw [decide_eq_true (show q2.e = 0 ∧ ¬ (f1 = f.pre ∧ f2 = f.name) from ⟨he, of_decide_eq_false hn⟩)] at hF
        rw [← hF]
        show St w0 G0 (Ky b (Xo (q2.fail 4) (vo, vp, xp b u, vb)) :: _) _
        exact h.to
      · refine ⟨rfl, ?_⟩
        rw [decide_eq_false (fun hx => hx.2 (of_decide_eq_true hn))] at hF
        rw [← hF]
        show St w0 G0 (Ky b (Xo q2 (vo, vp, xp b u, vb)) :: _) _
        exact h.to
    · refine ⟨rfl, ?_⟩
      rw [decide_eq_false (fun hx => he hx.1)] at hF
      rw [← hF]
      show St w0 G0 (Ky b (Xo q2 (vo, vp, xp b u, vb)) :: _) _
      exact h.to
end
end Go.Proofs.YtlflpbflpcmckaaGreatDoor
namespace Go.Proofs.YtlflpbflpcmckaaGreatDoor
open Go Go.Ez Go.RowKit Go.Lib
set_option linter.unusedSimpArgs false
set_option linter.unusedVariables false
section
variable {w0 W W' : World} {G : Nat → Prop} {l R R1 R2 : List As} {RR : Value → World → Prop} {t s pre : Txt} {b g n mb : Nat} {r : XRd} {v : Value} {f : XFr} {m : XMem} {L : List XPr} {name : Txt × Txt}
theorem flush_keep (r : XRd) : r.flush.at_ = r.at_ ∧ r.flush.s = r.s ∧ r.flush.op = r.op ∧ r.flush.out.length ≤ r.out.length + 1 ∧ r.flush.run = [] := by
  unfold XRd.flush
  split
  · unfold XRd.fail; split <;> exact ⟨rfl, rfl, rfl, Nat.le_succ _, rfl⟩
  · split
    · exact ⟨rfl, rfl, rfl, by simp, rfl⟩
    · exact ⟨rfl, rfl, rfl, Nat.le_succ _, rfl⟩
theorem content_spec (hT : XTabs w0) (h : St w0 G0 (XLs r b m R) W) (hm : XFit r m) (hok : r.Ok) (hs : r.s.length ≤ 30000) (hne : r.op ≠ []) (hop : r.op.length ≤ 1000) (hout : r.out.length ≤ 800000) (hrun : r.run.length ≤ 90000000000)
    (k : ∀ m' W', XFit (XRd.content decX signS r) m' → St w0 G0 (XLs (XRd.content decX signS r) b m' R) W' → RR (.tuple #[]) W') : CallF Tryz.prog 44 #[.pointer (some ⟨b, 0, none⟩)] W RR := by
  refine sh44_calls ?_
  unfold sh44
  have holen := hm.olen
  have hplen := hm.plen
  obtain ⟨vo, vp, vb, u, ov, pv, zs, ms⟩ := m
  simp only at *
  have ovo : Cel1 vo := .of_own (h.ow (v := vo))
  have ovp : Cel1 vp := .of_own (h.ow (v := vp))
  have ovb : Cel1 vb := .of_own (h.ow (v := vb))
  unfold XRd.content at k
  dsimp only at k
  have hst1 := XRd.stp_see (n := 0) hok
  refine see_spec (n := 0) (r := r) (c := (vo, vp, xp b u, vb)) h hok (by omega) (by decide) fun W h => ?_
  -- a text put to the run
  have putRun : ∀ (q : XRd) (t : Txt) (W : World), XRd.Stp r q → t.length ≤ 1000000 → St w0 G0 (Ky b (Xo q (vo, vp, xp b u, vb)) :: Ky vo (TkS ov) :: Ky vp (FrS pv) :: Ky vb (Ow 5 1 r.run.length (bytesV r.run)) :: Ky PoolK.a (KqA zs) :: Ky PoolK.b (Km ms) :: R) W →
      (∀ m' W', XFit ({ q with run := q.run ++ t } : XRd) m' → St w0 G0 (XLs ({ q with run := q.run ++ t } : XRd) b m' R) W' → RR (.tuple #[]) W') → CallF Tryz.prog 79 #[.pointer (some ⟨b, 5, none⟩), strV t] W fun _ W => RR (.tuple #[]) W := fun q t W hst ht h kk => by
    refine xwstr_spec (r := q) (vo := vo) (vp := vp) (u := u) (v := vb) (t := r.run) (s := t) h (by omega) fun v' W o' h => ?_
    refine kk ⟨vo, vp, v', true, ov, pv, zs, ms⟩ W ⟨hm.ov.trans hst.out.symm, hm.oz, hm.pv.trans hst.op.symm, hm.pm⟩ ?_
    show St w0 G0 (Ky b (Xo q (vo, vp, xp b true, v')) :: Ky vo (TkS ov) :: Ky vp (FrS pv) :: Ky v' (Ow 5 1 (q.run ++ t).length (bytesV (q.run ++ t))) :: Ky PoolK.a (KqA zs) :: Ky PoolK.b (Km ms) :: R) W
    rw [hst.run]
    exact h.to
  refine w_neC 60 rfl (ifd (fun hc => ?_) fun hc => ?_)
  · rw [if_pos hc] at k
    refine ⟨fun _ => True, trivial, ?_⟩
    replace h := h.drew
    refine a_nil (a_fld0 ?_)
    have hst2 := hst1.trans (XRd.stp_part (sgn := signS) decX_ok hst1.ok)
    have hpl := part_len (r := (r.see 0).2)
    rw [XRd.see_s] at hpl
    refine part_spec hT (r := (r.see 0).2) (c := (vo, vp, xp b u, vb)) h hst1.ok (by rw [XRd.see_s]; omega) fun W h => ?_
    exact putRun _ _ W hst2 (by omega) h k
  rw [if_neg hc] at k
  have hc60 : (r.see 0).1 = 60 := Classical.not_not.1 hc
  obtain ⟨x, hx, hxe⟩ := XRd.see_c (r := r) (n := 0) (by rw [hc60]; decide)
  rw [hxe] at h k
  dsimp only at h k
  have hy := XRd.stp_see (n := 1) hok
  refine see_spec (n := 1) (r := r) (c := (vo, vp, xp b u, vb)) h hok (by omega) (by decide) fun W h => ?_
  refine a_nil (a_fld0 (h.load ?_))
  refine w_neq (ifd (fun he => ?_) fun he => ?_)
  · rw [if_pos he] at k
    exact k ⟨vo, vp, vb, u, ov, pv, zs, ms⟩ W (hm.same hy.out hy.op) (xls_of (m := ⟨vo, vp, vb, u, ov, pv, zs, ms⟩) hy.run h)
  rw [if_neg he] at k
  obtain ⟨d, hd, hde⟩ := XRd.see_e (Classical.not_not.1 he)
  rw [hde] at h k ⊢
  dsimp only at h k ⊢
  have hlt := XRd.lt_of_at hd
  have hz := XRd.stp_see (n := 2) hok
  have hfk := flush_keep r
  have tail : ∀ W, d ≠ 33 → St w0 G0 (Ky b (Xo r (vo, vp, xp b u, vb)) :: Ky vo (TkS ov) :: Ky vp (FrS pv) :: Ky vb (Ow 5 1 r.run.length (bytesV r.run)) :: Ky PoolK.a (KqA zs) :: Ky PoolK.b (Km ms) :: R) W →
      RunW Tryz.prog (bin .eql 5 (.tmp 44) (.const (.int .u8 47)) (byteV d) (.int .u8 47)) W fun t45 =>
      IfB t45 (
      CallF Tryz.prog 82 #[.pointer (some ⟨b, 0, none⟩)] W fun _ w =>
      CallF Tryz.prog 83 #[.pointer (some ⟨b, 0, none⟩)] w fun _ w =>
      RR (.tuple #[]) w) (
      CallF Tryz.prog 42 #[byteV d] W fun t52 w =>
      IfB t52 (
      CallF Tryz.prog 82 #[.pointer (some ⟨b, 0, none⟩)] w fun _ w =>
      CallF Tryz.prog 43 #[.pointer (some ⟨b, 0, none⟩)] w fun _ w =>
      RR (.tuple #[]) w) (
      CallF Tryz.prog 41 #[.pointer (some ⟨b, 0, none⟩), (.int .i64 4)] w fun _ w =>
      RR (.tuple #[]) w)) := fun W h33 h => by
    rw [if_neg (fun hx => h33 hx.1), if_neg h33] at k
    refine w_eqC 47 rfl (ifd (fun h47 => ?_) fun h47 => ?_)
    · rw [if_pos h47] at k
      refine flush_spec (r := r) (m := ⟨vo, vp, vb, u, ov, pv, zs, ms⟩) (R := R) h hm (by show ov.length ≤ _; omega) (by omega) fun m' W hm' _ _ _ h => ?_
      exact end_spec hT (r := r.flush) h hm' (by rw [hfk.1, hfk.2.1]; omega) (by rw [hfk.2.1]; exact hs) (by rw [hfk.2.2.1]; exact hne) (by rw [hfk.2.2.1]; exact hop) (by omega) fun m'' W hm'' h => k m'' W hm'' h
    · rw [if_neg h47] at k
      refine begins_spec (ifb (fun hb => ?_) fun hb => ?_)
      · rw [if_pos hb] at k
        refine flush_spec (r := r) (m := ⟨vo, vp, vb, u, ov, pv, zs, ms⟩) (R := R) h hm (by show ov.length ≤ _; omega) (by omega) fun m' W hm' _ _ _ h => ?_
        exact element_spec hT (r := r.flush) h hm' (by rw [hfk.1, hfk.2.1]; omega) (by rw [hfk.2.1]; exact hs) (by rw [hfk.2.2.1]; exact hop) (by omega) fun m'' W hm'' h => k m'' W hm'' h
      · rw [if_neg (by rw [hb]; decide)] at k
        refine fail_spec (r := r) (c := (vo, vp, xp b u, vb)) h fun W h => ?_
        have hf := XRd.stp_fail (r := r) (c := 4) (by decide) hok.lt
        exact k ⟨vo, vp, vb, u, ov, pv, zs, ms⟩ W (hm.same hf.out hf.op) (xls_of (m := ⟨vo, vp, vb, u, ov, pv, zs, ms⟩) hf.run h)
  refine w_eqC 33 rfl (ifd (fun h33 => ?_) fun h33 => ?_)
  · refine see_spec (n := 2) (r := r) (c := (vo, vp, xp b u, vb)) h hok (by omega) (by decide) fun W h => ?_
    refine w_eqC 91 rfl (ifd (fun h91 => ?_) fun h91 => ?_)
    · rw [if_pos ⟨h33, h91⟩] at k
      obtain ⟨y, hyx, hye⟩ := XRd.see_c (r := r) (n := 2) (by rw [h91]; decide)
      rw [hye] at h k
      dsimp only at h k
      have hst2 := XRd.stp_wants (p := [60, 33, 91, 67, 68, 65, 84, 65, 91]) hok
      refine wants_spec (p := [60, 33, 91, 67, 68, 65, 84, 65, 91]) (r := r) (c := (vo, vp, xp b u, vb)) h hok (by omega) (by decide) fun W h => ?_
      refine ⟨fun _ => True, trivial, ?_⟩
      replace h := h.drew
      refine a_nil (a_fld0 ?_)
      have hst3 := hst2.trans (XRd.stp_til (p := [93, 93, 62]) decX_ok hst2.ok)
      refine til_spec hT (p := [93, 93, 62]) (r := _) (c := (vo, vp, xp b u, vb)) h hst2.ok (by rw [hst2.s]; omega) (by decide) fun W h => ?_
      refine putRun _ _ W hst3 ?_ h k
      unfold XRd.til
      split
      · exact Nat.zero_le _
      · dsimp only
        rw [List.length_take, List.length_drop, hst2.s]; omega
    · rw [if_neg (fun hx => h91 hx.2), if_pos h33] at k
      refine w_eqC 33 rfl (ifd_pos h33 ?_)
      have hst2 := hz.trans (XRd.stp_comment decX_ok hz.ok)
      refine comment_spec hT (r := (r.see 2).2) (c := (vo, vp, xp b u, vb)) h hz.ok (by rw [hz.s]; omega) fun W h => ?_
      exact k ⟨vo, vp, vb, u, ov, pv, zs, ms⟩ W (hm.same hst2.out hst2.op) (xls_of (m := ⟨vo, vp, vb, u, ov, pv, zs, ms⟩) hst2.run h)
  · refine w_eqC 33 rfl (ifd_neg h33 ?_)
    exact tail W h33 h
end
end Go.Proofs.YtlflpbflpcmckaaGreatDoor
namespace Go.Proofs.YtlflpbflpcmckaaGreatDoor
open Go Go.Ez
set_option linter.unusedVariables false
set_option maxRecDepth 100000
def entD : List Nat := [8, 9, 10, 11, 12, 13, 14, 15, 16, 17, 18, 19, 20, 21, 22, 23, 24, 25, 26, 27, 28, 29, 30, 37, 38, 46, 47, 48, 49, 50, 51, 52, 53, 70, 79, 84, 85, 86, 87, 88, 89, 90, 112, 114, 115, 116, 135, 136]
theorem hentD : ∀ g, memN g entD = true → Enters Tryz.prog g := enters_all (by kernel_rfl)
def sh3 (a0 a1 : Value) (w : World) (R : Value → World → Prop) : Prop :=
 CallF Tryz.prog 8 #[] w fun t16_1 w =>
 RunA Tryz.prog (Op.unary .not t16_1) fun t17_2 =>
 IfB t17_2 (
 R (.bool false) w) (
 RunW Tryz.prog (Builtin.len_ #[22] 3 #[a0]) w fun t19_3 =>
 RunA Tryz.prog (bin .gtr 3 (.tmp 19) (.const (.int .i64 30)) t19_3 (.int .i64 30)) fun t20_4 =>
 IfB t20_4 (
 CallF Tryz.prog 8 #[] w fun t26_5 w =>
 R t26_5 w) (
 RunW Tryz.prog (Builtin.len_ #[22] 3 #[a1]) w fun t23_6 =>
 RunA Tryz.prog (bin .gtr 3 (.tmp 23) (.const (.int .i64 30)) t23_6 (.int .i64 30)) fun t24_7 =>
 IfB t24_7 (
 CallF Tryz.prog 8 #[] w fun t26_8 w =>
 R t26_8 w) (
 lp 2 (fun n_11 t5_9 t7_10 w =>
 RunW Tryz.prog (Builtin.len_ #[22] 3 #[a0]) w fun t29_12 =>
 RunA Tryz.prog (bin .lss 3 (.tmp 27) (.tmp 29) t7_10 t29_12) fun t30_13 =>
 IfB t30_13 (
 RunA Tryz.prog (Instr.indexAt 22 a0 t7_10) fun t35_14 =>
 RunW Tryz.prog (Instr.loadAt 9 t35_14) w fun t36_15 =>
 CallF Tryz.prog 9 #[t36_15] w fun t37_16 w =>
 RunA Tryz.prog (Op.unary .not t37_16) fun t38_17 =>
 IfB t38_17 (
 CallF Tryz.prog 8 #[] w fun t39_18 w =>
 R t39_18 w) (
 RunA Tryz.prog (Instr.indexAt 22 a0 t7_10) fun t43_19 =>
 RunW Tryz.prog (Instr.loadAt 9 t43_19) w fun t44_20 =>
 RunA Tryz.prog (bin .add 9 (.const (.string ⟨#[60, 105, 116, 101, 109, 62, 60, 103, 117, 105, 100, 62]⟩)) (.tmp 44) (.string ⟨#[60, 105, 116, 101, 109, 62, 60, 103, 117, 105, 100, 62]⟩) t44_20) fun t45_21 =>
 RunA Tryz.prog (bin .add 9 (.tmp 45) (.const (.string ⟨#[60, 47, 103, 117, 105, 100, 62, 60, 47, 105, 116, 101, 109, 62]⟩)) t45_21 (.string ⟨#[60, 47, 103, 117, 105, 100, 62, 60, 47, 105, 116, 101, 109, 62]⟩)) fun t46_22 =>
 RunA Tryz.prog (bin .add 9 (.tmp 40) (.tmp 46) t5_9 t46_22) fun t47_23 =>
 RunA Tryz.prog (bin .add 3 (.tmp 31) (.const (.int .i64 1)) t7_10 (.int .i64 1)) fun t32_24 =>
 (a0 : Value) = a0 ∧ ((a1 : Value) = a1 ∧ (((.string ⟨#[]⟩) : Value) = (.string ⟨#[]⟩) ∧ (n_11 t47_23 t32_24 w))))) (
 lp 2 (fun n_27 t6_25 t8_26 w =>
 RunW Tryz.prog (Builtin.len_ #[22] 3 #[a1]) w fun t50_28 =>
 RunA Tryz.prog (bin .lss 3 (.tmp 48) (.tmp 50) t8_26 t50_28) fun t51_29 =>
 IfB t51_29 (
 RunA Tryz.prog (Instr.indexAt 22 a1 t8_26) fun t56_30 =>
 RunW Tryz.prog (Instr.loadAt 9 t56_30) w fun t57_31 =>
 CallF Tryz.prog 9 #[t57_31] w fun t58_32 w =>
 RunA Tryz.prog (Op.unary .not t58_32) fun t59_33 =>
 IfB t59_33 (
 CallF Tryz.prog 8 #[] w fun t60_34 w =>
 R t60_34 w) (
 RunA Tryz.prog (Instr.indexAt 22 a1 t8_26) fun t64_35 =>
 RunW Tryz.prog (Instr.loadAt 9 t64_35) w fun t65_36 =>
 RunA Tryz.prog (bin .add 9 (.const (.string ⟨#[60, 105, 116, 101, 109, 62, 60, 108, 105, 110, 107, 62]⟩)) (.tmp 65) (.string ⟨#[60, 105, 116, 101, 109, 62, 60, 108, 105, 110, 107, 62]⟩) t65_36) fun t66_37 =>
 RunA Tryz.prog (bin .add 9 (.tmp 66) (.const (.string ⟨#[60, 47, 108, 105, 110, 107, 62, 60, 47, 105, 116, 101, 109, 62]⟩)) t66_37 (.string ⟨#[60, 47, 108, 105, 110, 107, 62, 60, 47, 105, 116, 101, 109, 62]⟩)) fun t67_38 =>
 RunA Tryz.prog (bin .add 9 (.tmp 61) (.tmp 67) t6_25 t67_38) fun t68_39 =>
 RunA Tryz.prog (bin .add 3 (.tmp 52) (.const (.int .i64 1)) t8_26 (.int .i64 1)) fun t53_40 =>
 (a0 : Value) = a0 ∧ ((a1 : Value) = a1 ∧ ((t5_9 : Value) = t5_9 ∧ (n_27 t68_39 t53_40 w))))) (
 RunW Tryz.prog (Builtin.len_ #[9] 3 #[t5_9]) w fun t70_41 =>
 RunW Tryz.prog (Builtin.len_ #[9] 3 #[t6_25]) w fun t72_42 =>
 RunA Tryz.prog (bin .add 3 (.tmp 70) (.tmp 72) t70_41 t72_42) fun t73_43 =>
 RunA Tryz.prog (bin .gtr 3 (.tmp 73) (.const (.int .i64 19800)) t73_43 (.int .i64 19800)) fun t74_44 =>
 IfB t74_44 (
 CallF Tryz.prog 8 #[] w fun t75_45 w =>
 R t75_45 w) (
 RunA Tryz.prog (bin .add 9 (.tmp 77) (.const (.string ⟨#[60, 47, 99, 104, 97, 110, 110, 101, 108, 62, 60, 47, 114, 115, 115, 62]⟩)) t5_9 (.string ⟨#[60, 47, 99, 104, 97, 110, 110, 101, 108, 62, 60, 47, 114, 115, 115, 62]⟩)) fun t78_46 =>
 RunV Tryz.prog (convert 9 31 t78_46) w fun t79_47 w =>
 CallF Tryz.prog 10 #[t79_47] w fun t80_48 w =>
 RunA Tryz.prog (Instr.extract t80_48 0) fun t81_49 =>
 RunA Tryz.prog (Instr.extract t80_48 1) fun t82_50 =>
 RunV Tryz.prog (Instr.alloc 27 true (.tuple #[])) w fun t9_51 w =>
 RunU Tryz.prog (Instr.storeAt 27 t9_51 t81_49) w fun w =>
 RunA Tryz.prog (bin .add 9 (.tmp 84) (.const (.string ⟨#[60, 105, 116, 101, 109, 62, 60, 116, 105, 116, 108, 101, 62, 120, 60, 47, 116, 105, 116, 108, 101, 62, 60, 47, 105, 116, 101, 109, 62]⟩)) t5_9 (.string ⟨#[60, 105, 116, 101, 109, 62, 60, 116, 105, 116, 108, 101, 62, 120, 60, 47, 116, 105, 116, 108, 101, 62, 60, 47, 105, 116, 101, 109, 62]⟩)) fun t85_52 =>
 RunA Tryz.prog (bin .add 9 (.tmp 85) (.tmp 86) t85_52 t6_25) fun t87_53 =>
 RunA Tryz.prog (bin .add 9 (.tmp 87) (.const (.string ⟨#[60, 47, 99, 104, 97, 110, 110, 101, 108, 62, 60, 47, 114, 115, 115, 62]⟩)) t87_53 (.string ⟨#[60, 47, 99, 104, 97, 110, 110, 101, 108, 62, 60, 47, 114, 115, 115, 62]⟩)) fun t88_54 =>
 RunV Tryz.prog (convert 9 31 t88_54) w fun t89_55 w =>
 CallF Tryz.prog 10 #[t89_55] w fun t90_56 w =>
 RunA Tryz.prog (Instr.extract t90_56 0) fun t91_57 =>
 RunA Tryz.prog (Instr.extract t90_56 1) fun t92_58 =>
 RunV Tryz.prog (Instr.alloc 27 true (.tuple #[])) w fun t11_59 w =>
 RunU Tryz.prog (Instr.storeAt 27 t11_59 t91_57) w fun w =>
 CallF Tryz.prog 12 #[a0] w fun t94_60 w =>
 RunV Tryz.prog (Builtin.append_ #[22, 22] 22 #[t94_60, a1]) w fun t96_61 w =>
 CallF Tryz.prog 11 #[t96_61] w fun t97_62 w =>
 drw (fun S_63 w =>
 RunS Tryz.prog S_63 (bin .neq 28 (.tmp 98) (.const (.int .i64 0)) t82_50 (.int .i64 0)) fun t99_64 =>
 IfB t99_64 (
 R (.bool false) w) (
 RunS Tryz.prog S_63 (bin .neq 28 (.tmp 101) (.const (.int .i64 0)) t92_58 (.int .i64 0)) fun t102_65 =>
 IfB t102_65 (
 R (.bool false) w) (
 RunA Tryz.prog (Instr.fieldAt 27 t9_51 1) fun t105_66 =>
 RunS Tryz.prog S_63 (Instr.loadAt 25 t105_66) fun t106_67 =>
 RunS Tryz.prog S_63 (Builtin.len_ #[25] 3 #[t106_67]) fun t107_68 =>
 CallF Tryz.prog 11 #[a0] w fun t109_69 w =>
 S_63 w ∧ (
 RunS Tryz.prog S_63 (Builtin.len_ #[22] 3 #[t109_69]) fun t110_70 =>
 RunS Tryz.prog S_63 (bin .neq 3 (.tmp 107) (.tmp 110) t107_68 t110_70) fun t111_71 =>
 IfB t111_71 (
 R (.bool false) w) (
 RunA Tryz.prog (Instr.fieldAt 27 t11_59 1) fun t114_72 =>
 RunS Tryz.prog S_63 (Instr.loadAt 25 t114_72) fun t115_73 =>
 RunS Tryz.prog S_63 (Builtin.len_ #[25] 3 #[t115_73]) fun t116_74 =>
 RunS Tryz.prog S_63 (Builtin.len_ #[22] 3 #[t97_62]) fun t118_75 =>
 RunS Tryz.prog S_63 (bin .neq 3 (.tmp 116) (.tmp 118) t116_74 t118_75) fun t119_76 =>
 IfB t119_76 (
 R (.bool false) w) (
 RunA Tryz.prog (Instr.fieldAt 27 t9_51 1) fun t122_77 =>
 RunS Tryz.prog S_63 (Instr.loadAt 25 t122_77) fun t123_78 =>
 RunS Tryz.prog S_63 (Builtin.len_ #[25] 3 #[t123_78]) fun t124_79 =>
 RunA Tryz.prog (Instr.fieldAt 27 t11_59 1) fun t125_80 =>
 RunS Tryz.prog S_63 (Instr.loadAt 25 t125_80) fun t126_81 =>
 RunS Tryz.prog S_63 (Builtin.len_ #[25] 3 #[t126_81]) fun t127_82 =>
 RunA Tryz.prog (bin .gtr 3 (.tmp 124) (.tmp 127) t124_79 t127_82) fun t128_83 =>
 IfB t128_83 (
 R (.bool false) w) (
 lp 1 (fun n_85 t14_84 w =>
 RunA Tryz.prog (Instr.fieldAt 27 t11_59 1) fun t131_86 =>
 RunW Tryz.prog (Instr.loadAt 25 t131_86) w fun t132_87 =>
 RunW Tryz.prog (Builtin.len_ #[25] 3 #[t132_87]) w fun t133_88 =>
 RunA Tryz.prog (bin .lss 3 (.tmp 130) (.tmp 133) t14_84 t133_88) fun t134_89 =>
 IfB t134_89 (
 RunA Tryz.prog (Instr.fieldAt 27 t11_59 1) fun t137_90 =>
 RunW Tryz.prog (Instr.loadAt 25 t137_90) w fun t138_91 =>
 RunA Tryz.prog (Instr.indexAt 25 t138_91 t14_84) fun t140_92 =>
 RunW Tryz.prog (Instr.loadAt 34 t140_92) w fun t141_93 =>
 RunV Tryz.prog (Instr.alloc 34 true (.tuple #[])) w fun t15_94 w =>
 RunU Tryz.prog (Instr.storeAt 34 t15_94 t141_93) w fun w =>
 jn 4 (fun t9_95 t11_96 t13_97 t14_98 w =>
 RunA Tryz.prog (bin .add 3 (.tmp 135) (.const (.int .i64 1)) t14_98 (.int .i64 1)) fun t136_100 =>
 (t9_95 : Value) = t9_51 ∧ ((t11_96 : Value) = t11_59 ∧ ((t13_97 : Value) = t97_62 ∧ (n_85 t136_100 w)))) fun j_99 =>
 drw (fun S_101 w =>
 RunA Tryz.prog (Instr.fieldAt 27 t9_51 1) fun t143_102 =>
 RunS Tryz.prog S_101 (Instr.loadAt 25 t143_102) fun t144_103 =>
 RunS Tryz.prog S_101 (Builtin.len_ #[25] 3 #[t144_103]) fun t145_104 =>
 RunA Tryz.prog (bin .lss 3 (.tmp 142) (.tmp 145) t14_84 t145_104) fun t146_105 =>
 IfB t146_105 (
 RunS Tryz.prog S_101 (Instr.loadAt 34 t15_94) fun t148_106 =>
 RunA Tryz.prog (Instr.fieldAt 27 t9_51 1) fun t149_107 =>
 RunS Tryz.prog S_101 (Instr.loadAt 25 t149_107) fun t150_108 =>
 RunA Tryz.prog (Instr.indexAt 25 t150_108 t14_84) fun t152_109 =>
 RunS Tryz.prog S_101 (Instr.loadAt 34 t152_109) fun t153_110 =>
 CallF Tryz.prog 13 #[t148_106, t153_110] w fun t154_111 w =>
 S_101 w ∧ (
 RunA Tryz.prog (Op.unary .not t154_111) fun t155_112 =>
 IfB t155_112 (
 R (.bool false) w) (
 RunA Tryz.prog (Instr.fieldAt 27 t9_51 1) fun t159_113 =>
 RunS Tryz.prog S_101 (Instr.loadAt 25 t159_113) fun t160_114 =>
 RunS Tryz.prog S_101 (Builtin.len_ #[25] 3 #[t160_114]) fun t161_115 =>
 RunA Tryz.prog (bin .geq 3 (.tmp 158) (.tmp 161) t14_84 t161_115) fun t162_116 =>
 IfB t162_116 (
 RunA Tryz.prog (Instr.fieldAt 34 t15_94 3) fun t164_117 =>
 RunS Tryz.prog S_101 (Instr.loadAt 9 t164_117) fun t165_118 =>
 RunA Tryz.prog (Instr.fieldAt 34 t15_94 1) fun t166_119 =>
 RunS Tryz.prog S_101 (Instr.loadAt 9 t166_119) fun t167_120 =>
 RunS Tryz.prog S_101 (bin .neq 9 (.tmp 165) (.tmp 167) t165_118 t167_120) fun t168_121 =>
 IfB t168_121 (
 R (.bool false) w) (
 RunA Tryz.prog (Instr.fieldAt 34 t15_94 2) fun t172_122 =>
 RunS Tryz.prog S_101 (Instr.loadAt 9 t172_122) fun t173_123 =>
 RunS Tryz.prog S_101 (bin .neq 9 (.tmp 173) (.const (.string ⟨#[]⟩)) t173_123 (.string ⟨#[]⟩)) fun t174_124 =>
 IfB t174_124 (
 R (.bool false) w) (
 RunA Tryz.prog (Instr.fieldAt 34 t15_94 1) fun t178_125 =>
 RunS Tryz.prog S_101 (Instr.loadAt 9 t178_125) fun t179_126 =>
 CallF Tryz.prog 14 #[t97_62, t179_126] w fun t180_127 w =>
 S_101 w ∧ (
 RunA Tryz.prog (Op.unary .not t180_127) fun t181_128 =>
 IfB t181_128 (
 R (.bool false) w) (
 j_99 t9_51 t11_59 t97_62 t14_84 w))))) (
 RunA Tryz.prog (Instr.fieldAt 34 t15_94 2) fun t172_129 =>
 RunS Tryz.prog S_101 (Instr.loadAt 9 t172_129) fun t173_130 =>
 RunS Tryz.prog S_101 (bin .neq 9 (.tmp 173) (.const (.string ⟨#[]⟩)) t173_130 (.string ⟨#[]⟩)) fun t174_131 =>
 IfB t174_131 (
 R (.bool false) w) (
 RunA Tryz.prog (Instr.fieldAt 34 t15_94 1) fun t178_132 =>
 RunS Tryz.prog S_101 (Instr.loadAt 9 t178_132) fun t179_133 =>
 CallF Tryz.prog 14 #[t97_62, t179_133] w fun t180_134 w =>
 S_101 w ∧ (
 RunA Tryz.prog (Op.unary .not t180_134) fun t181_135 =>
 IfB t181_135 (
 R (.bool false) w) (
 j_99 t9_51 t11_59 t97_62 t14_84 w))))))) (
 RunA Tryz.prog (Instr.fieldAt 27 t9_51 1) fun t159_136 =>
 RunS Tryz.prog S_101 (Instr.loadAt 25 t159_136) fun t160_137 =>
 RunS Tryz.prog S_101 (Builtin.len_ #[25] 3 #[t160_137]) fun t161_138 =>
 RunA Tryz.prog (bin .geq 3 (.tmp 158) (.tmp 161) t14_84 t161_138) fun t162_139 =>
 IfB t162_139 (
 RunA Tryz.prog (Instr.fieldAt 34 t15_94 3) fun t164_140 =>
 RunS Tryz.prog S_101 (Instr.loadAt 9 t164_140) fun t165_141 =>
 RunA Tryz.prog (Instr.fieldAt 34 t15_94 1) fun t166_142 =>
 RunS Tryz.prog S_101 (Instr.loadAt 9 t166_142) fun t167_143 =>
 RunS Tryz.prog S_101 (bin .neq 9 (.tmp 165) (.tmp 167) t165_141 t167_143) fun t168_144 =>
 IfB t168_144 (
 R (.bool false) w) (
 RunA Tryz.prog (Instr.fieldAt 34 t15_94 2) fun t172_145 =>
 RunS Tryz.prog S_101 (Instr.loadAt 9 t172_145) fun t173_146 =>
 RunS Tryz.prog S_101 (bin .neq 9 (.tmp 173) (.const (.string ⟨#[]⟩)) t173_146 (.string ⟨#[]⟩)) fun t174_147 =>
 IfB t174_147 (
 R (.bool false) w) (
 RunA Tryz.prog (Instr.fieldAt 34 t15_94 1) fun t178_148 =>
 RunS Tryz.prog S_101 (Instr.loadAt 9 t178_148) fun t179_149 =>
 CallF Tryz.prog 14 #[t97_62, t179_149] w fun t180_150 w =>
 S_101 w ∧ (
 RunA Tryz.prog (Op.unary .not t180_150) fun t181_151 =>
 IfB t181_151 (
 R (.bool false) w) (
 j_99 t9_51 t11_59 t97_62 t14_84 w))))) (
 RunA Tryz.prog (Instr.fieldAt 34 t15_94 2) fun t172_152 =>
 RunS Tryz.prog S_101 (Instr.loadAt 9 t172_152) fun t173_153 =>
 RunS Tryz.prog S_101 (bin .neq 9 (.tmp 173) (.const (.string ⟨#[]⟩)) t173_153 (.string ⟨#[]⟩)) fun t174_154 =>
 IfB t174_154 (
 R (.bool false) w) (
 RunA Tryz.prog (Instr.fieldAt 34 t15_94 1) fun t178_155 =>
 RunS Tryz.prog S_101 (Instr.loadAt 9 t178_155) fun t179_156 =>
 CallF Tryz.prog 14 #[t97_62, t179_156] w fun t180_157 w =>
 S_101 w ∧ (
 RunA Tryz.prog (Op.unary .not t180_157) fun t181_158 =>
 IfB t181_158 (
 R (.bool false) w) (
 j_99 t9_51 t11_59 t97_62 t14_84 w)))))) w) (
 CallF Tryz.prog 8 #[] w fun t183_159 w =>
 R t183_159 w)) [(.int .i64 0)] w))))))) w))) [(.string ⟨#[]⟩), (.int .i64 0)] w)) [(.string ⟨#[60, 114, 115, 115, 62, 60, 99, 104, 97, 110, 110, 101, 108, 62]⟩), (.int .i64 0)] w)))
theorem sh3_calls {a0 a1 : Value} {w : World} {R : Value → World → Prop} (h : sh3 a0 a1 w R) : CallF Tryz.prog 3 #[a0, a1] w R :=
  calls_of_denF (mk := false) (args := [a0, a1]) (an := (.seq (.ops [0, 1]) (.seq (.seq (.ops [0, 1, 17]) (.cond (.seq (.ops [4]) .leaf) .leaf)) (.seq (.seq (.ops [0, 1, 25]) (.cond (.seq (.ops [4]) .leaf) .leaf)) (.seq (.ops [0, 1, 5, 6]) (.seq (.seq (.ops [0, 1, 5, 6, 7]) (.blk (.loop [0, 1, 6] [5, 7] (.seq (.seq (.ops [0, 1, 5, 6, 7, 30]) (.cond .leaf .leaf)) (.seq (.blk (.seq (.seq (.ops [0, 1, 5, 6, 7, 38]) (.cond (.seq (.ops [4]) .leaf) .leaf)) (.ops [0, 1, 5, 6, 7]))) (.ops [0, 1, 5, 6, 7])))))) (.seq (.seq (.ops [0, 1, 5, 6, 8]) (.blk (.loop [0, 1, 5] [6, 8] (.seq (.seq (.ops [0, 1, 5, 6, 8, 51]) (.cond .leaf .leaf)) (.seq (.blk (.seq (.seq (.ops [0, 1, 5, 6, 8, 59]) (.cond (.seq (.ops [4]) .leaf) .leaf)) (.ops [0, 1, 5, 6, 8]))) (.ops [0, 1, 5, 6, 8])))))) (.seq (.seq (.ops [0, 1, 5, 6, 74]) (.cond (.seq (.ops [4]) .leaf) .leaf)) (.seq (.ops [0, 1, 5, 6, 9, 10]) (.seq (.ops [0, 1, 9, 10, 11, 12]) (.seq (.ops [0, 9, 10, 11, 12, 13]) (.seq (.seq (.draw (.q 0 (.q 1 (.q 2 (.sp 3 (.q 3 (.q 4 (.q 5 (.q 6 (.q 7 (.q 8 (.q 9 (.q 10 (.q 11 (.q 12 (.q 13 (.q 14 (.q 15 (.q 16 (.q 17 (.q 18 (.q 19 (.q 20 (.q 21 (.q 22 (.q 23 (.q 24 (.q 25 (.q 26 (.q 27 (.q 28 (.q 29 (.q 30 (.q 31 .fin))))))))))))))))))))))))))))) (.q 3 (.q 4 (.q 5 (.q 6 (.sp 7 (.q 7 (.q 8 (.q 9 (.q 10 (.q 11 (.q 12 (.q 13 (.q 14 (.q 15 (.q 16 (.q 17 (.q 18 (.q 19 (.q 20 (.q 21 (.q 22 (.q 23 (.q 24 (.q 25 (.q 26 (.q 27 (.q 28 (.q 29 (.q 30 (.q 31 .fin))))))))))))))))))))))))) (.q 7 (.q 8 (.q 9 (.q 10 (.one 11 (.q 12 (.q 13 (.q 14 (.q 15 (.sp 16 (.q 16 (.q 17 (.q 18 (.q 19 (.q 20 (.q 21 (.q 22 (.q 23 (.q 24 (.q 25 (.q 26 (.q 27 (.q 28 (.q 29 (.q 30 (.q 31 .fin)))))))))))))))) (.q 16 (.q 17 (.q 18 (.q 19 (.q 20 (.q 21 (.q 22 (.q 23 (.sp 24 (.q 24 (.q 25 (.q 26 (.q 27 (.q 28 (.q 29 (.q 30 (.q 31 .fin)))))))) (.q 24 (.q 25 (.q 26 (.q 27 (.q 28 (.q 29 (.q 30 (.q 31 .fin)))))))))))))))))))))))))))))))))))) [9, 11, 13, 129]) (.cond (.seq (.ops [4]) .leaf) .leaf)) (.seq (.seq (.ops [9, 11, 13, 14]) (.blk (.loop [9, 11, 13] [14] (.seq (.seq (.ops [9, 11, 13, 14, 134]) (.cond .leaf .leaf)) (.seq (.blk (.seq (.ops [9, 11, 13, 14, 15]) (.join [9, 11, 13, 14] (.seq (.draw (.q 0 (.q 1 (.q 2 (.q 3 (.q 4 (.q 5 (.sp 6 (.q 6 (.q 7 (.q 8 (.q 9 (.q 10 (.q 11 (.one 12 (.q 13 (.q 14 (.q 15 (.sp 16 (.q 16 (.q 17 (.q 18 (.q 19 (.q 20 (.q 21 (.q 22 (.q 23 (.q 24 (.q 25 (.q 26 (.q 27 (.q 28 (.q 29 (.q 30 (.q 31 (.q 32 (.q 33 (.q 34 (.q 35 (.q 36 (.q 37 (.q 38 (.q 39 (.q 40 .fin))))))))))))))))))))))))) (.q 16 (.q 17 (.q 18 (.q 19 (.q 20 (.q 21 (.sp 22 (.q 22 (.q 23 (.q 24 (.q 25 (.q 26 (.q 27 (.q 28 (.q 29 (.sp 30 (.q 30 (.q 31 (.q 32 (.q 33 (.q 34 (.q 35 (.q 36 (.q 37 (.q 38 (.q 39 (.q 40 .fin))))))))))) (.q 30 (.q 31 (.q 32 (.q 33 (.q 34 (.sp 35 (.q 35 (.q 36 (.q 37 (.q 38 (.q 39 (.q 40 .fin)))))) (.q 35 (.q 36 (.q 37 (.one 38 (.q 39 (.q 40 .fin))))))))))))))))))))) (.q 22 (.q 23 (.q 24 (.q 25 (.q 26 (.q 27 (.q 28 (.q 29 (.q 30 (.q 31 (.q 32 (.q 33 (.q 34 (.sp 35 (.q 35 (.q 36 (.q 37 (.q 38 (.q 39 (.q 40 .fin)))))) (.q 35 (.q 36 (.q 37 (.one 38 (.q 39 (.q 40 .fin)))))))))))))))))))))))))))))))))))))) (.q 6 (.q 7 (.q 8 (.q 9 (.q 10 (.q 11 (.q 12 (.q 13 (.q 14 (.q 15 (.q 16 (.q 17 (.q 18 (.q 19 (.q 20 (.q 21 (.sp 22 (.q 22 (.q 23 (.q 24 (.q 25 (.q 26 (.q 27 (.q 28 (.q 29 (.sp 30 (.q 30 (.q 31 (.q 32 (.q 33 (.q 34 (.q 35 (.q 36 (.q 37 (.q 38 (.q 39 (.q 40 .fin))))))))))) (.q 30 (.q 31 (.q 32 (.q 33 (.q 34 (.sp 35 (.q 35 (.q 36 (.q 37 (.q 38 (.q 39 (.q 40 .fin)))))) (.q 35 (.q 36 (.q 37 (.one 38 (.q 39 (.q 40 .fin))))))))))))))))))))) (.q 22 (.q 23 (.q 24 (.q 25 (.q 26 (.q 27 (.q 28 (.q 29 (.q 30 (.q 31 (.q 32 (.q 33 (.q 34 (.sp 35 (.q 35 (.q 36 (.q 37 (.q 38 (.q 39 (.q 40 .fin)))))) (.q 35 (.q 36 (.q 37 (.one 38 (.q 39 (.q 40 .fin)))))))))))))))))))))))))))))))))))))))))))) [9, 11, 13, 14, 182]) (.cond (.seq (.ops [4]) .leaf) .leaf))))) (.ops [9, 11, 13, 14])))))) (.seq (.ops [4]) .leaf)))))))))))))) (c := Tryz.f3.body.getD .skip) hentD Tryz.func3 rfl (Nat.le_of_ble_eq_true (by kernel_rfl))
    (Eq.mp (show sh3 a0 a1 w R = denF Tryz.prog entD false Tryz.f3 (.seq (.ops [0, 1]) (.seq (.seq (.ops [0, 1, 17]) (.cond (.seq (.ops [4]) .leaf) .leaf)) (.seq (.seq (.ops [0, 1, 25]) (.cond (.seq (.ops [4]) .leaf) .leaf)) (.seq (.ops [0, 1, 5, 6]) (.seq (.seq (.ops [0, 1, 5, 6, 7]) (.blk (.loop [0, 1, 6] [5, 7] (.seq (.seq (.ops [0, 1, 5, 6, 7, 30]) (.cond .leaf .leaf)) (.seq (.blk (.seq (.seq (.ops [0, 1, 5, 6, 7, 38]) (.cond (.seq (.ops [4]) .leaf) .leaf)) (.ops [0, 1, 5, 6, 7]))) (.ops [0, 1, 5, 6, 7])))))) (.seq (.seq (.ops [0, 1, 5, 6, 8]) (.blk (.loop [0, 1, 5] [6, 8] (.seq (.seq (.ops [0, 1, 5, 6, 8, 51]) (.cond .leaf .leaf)) (.seq (.blk (.seq (.seq (.ops [0, 1, 5, 6, 8, 59]) (.cond (.seq (.ops [4]) .leaf) .leaf)) (.ops [0, 1, 5, 6, 8]))) (.ops [0, 1, 5, 6, 8])))))) (.seq (.seq (.ops [0, 1, 5, 6, 74]) (.cond (.seq (.ops [4]) .leaf) .leaf)) (.seq (.ops [0, 1, 5, 6, 9, 10]) (.seq (.ops [0, 1, 9, 10, 11, 12]) (.seq (.ops [0, 9, 10, 11, 12, 13]) (.seq (.seq (.draw (.q 0 (.q 1 (.q 2 (.sp 3 (.q 3 (.q 4 (.q 5 (.q 6 (.q 7 (.q 8 (.q 9 (.q 10 (.q 11 (.q 12 (.q 13 (.q 14 (.q 15 (.q 16 (.q 17 (.q 18 (.q 19 (.q 20 (.q 21 (.q 22 (.q 23 (.q 24 (.q 25 (.q 26 (.q 27 (.q 28 (.q 29 (.q 30 (.q 31 .fin))))))))))))))))))))))))))))) (.q 3 (.q 4 (.q 5 (.q 6 (.sp 7 (.q 7 (.q 8 (.q 9 (.q 10 (.q 11 (.q 12 (.q 13 (.q 14 (.q 15 (.q 16 (.q 17 (.q 18 (.q 19 (.q 20 (.q 21 (.q 22 (.q 23 (.q 24 (.q 25 (.q 26 (.q 27 (.q 28 (.q 29 (.q 30 (.q 31 .fin))))))))))))))))))))))))) (.q 7 (.q 8 (.q 9 (.q 10 (.one 11 (.q 12 (.q 13 (.q 14 (.q 15 (.sp 16 (.q 16 (.q 17 (.q 18 (.q 19 (.q 20 (.q 21 (.q 22 (.q 23 (.q 24 (.q 25 (.q 26 (.q 27 (.q 28 (.q 29 (.q 30 (.q 31 .fin)))))))))))))))) (.q 16 (.q 17 (.q 18 (.q 19 (.q 20 (.q 21 (.q 22 (.q 23 (.sp 24 (.q 24 (.q 25 (.q 26 (.q 27 (.q 28 (.q 29 (.q 30 (.q 31 .fin)))))))) (.q 24 (.q 25 (.q 26 (.q 27 (.q 28 (.q 29 (.q 30 (.q 31 .fin)))))))))))))))))))))))))))))))))))) [9, 11, 13, 129]) (.cond (.seq (.ops [4]) .leaf) .leaf)) (.seq (.seq (.ops [9, 11, 13, 14]) (.blk (.loop [9, 11, 13] [14] (.seq (.seq (.ops [9, 11, 13, 14, 134]) (.cond .leaf .leaf)) (.seq (.blk (.seq (.ops [9, 11, 13, 14, 15]) (.join [9, 11, 13, 14] (.seq (.draw (.q 0 (.q 1 (.q 2 (.q 3 (.q 4 (.q 5 (.sp 6 (.q 6 (.q 7 (.q 8 (.q 9 (.q 10 (.q 11 (.one 12 (.q 13 (.q 14 (.q 15 (.sp 16 (.q 16 (.q 17 (.q 18 (.q 19 (.q 20 (.q 21 (.q 22 (.q 23 (.q 24 (.q 25 (.q 26 (.q 27 (.q 28 (.q 29 (.q 30 (.q 31 (.q 32 (.q 33 (.q 34 (.q 35 (.q 36 (.q 37 (.q 38 (.q 39 (.q 40 .fin))))))))))))))))))))))))) (.q 16 (.q 17 (.q 18 (.q 19 (.q 20 (.q 21 (.sp 22 (.q 22 (.q 23 (.q 24 (.q 25 (.q 26 (.q 27 (.q 28 (.q 29 (.sp 30 (.q 30 (.q 31 (.q 32 (.q 33 (.q 34 (.q 35 (.q 36 (.q 37 (.q 38 (.q 39 (.q 40 .fin))))))))))) (.q 30 (.q 31 (.q 32 (.q 33 (.q 34 (.sp 35 (.q 35 (.q 36 (.q 37 (.q 38 (.q 39 (.q 40 .fin)))))) (.q 35 (.q 36 (.q 37 (.one 38 (.q 39 (.q 40 .fin))))))))))))))))))))) (.q 22 (.q 23 (.q 24 (.q 25 (.q 26 (.q 27 (.q 28 (.q 29 (.q 30 (.q 31 (.q 32 (.q 33 (.q 34 (.sp 35 (.q 35 (.q 36 (.q 37 (.q 38 (.q 39 (.q 40 .fin)))))) (.q 35 (.q 36 (.q 37 (.one 38 (.q 39 (.q 40 .fin)))))))))))))))))))))))))))))))))))))) (.q 6 (.q 7 (.q 8 (.q 9 (.q 10 (.q 11 (.q 12 (.q 13 (.q 14 (.q 15 (.q 16 (.q 17 (.q 18 (.q 19 (.q 20 (.q 21 (.sp 22 (.q 22 (.q 23 (.q 24 (.q 25 (.q 26 (.q 27 (.q 28 (.q 29 (.sp 30 (.q 30 (.q 31 (.q 32 (.q 33 (.q 34 (.q 35 (.q 36 (.q 37 (.q 38 (.q 39 (.q 40 .fin))))))))))) (.q 30 (.q 31 (.q 32 (.q 33 (.q 34 (.sp 35 (.q 35 (.q 36 (.q 37 (.q 38 (.q 39 (.q 40 .fin)))))) (.q 35 (.q 36 (.q 37 (.one 38 (.q 39 (.q 40 .fin))))))))))))))))))))) (.q 22 (.q 23 (.q 24 (.q 25 (.q 26 (.q 27 (.q 28 (.q 29 (.q 30 (.q 31 (.q 32 (.q 33 (.q 34 (.sp 35 (.q 35 (.q 36 (.q 37 (.q 38 (.q 39 (.q 40 .fin)))))) (.q 35 (.q 36 (.q 37 (.one 38 (.q 39 (.q 40 .fin)))))))))))))))))))))))))))))))))))))))))))) [9, 11, 13, 14, 182]) (.cond (.seq (.ops [4]) .leaf) .leaf))))) (.ops [9, 11, 13, 14])))))) (.seq (.ops [4]) .leaf))))))))))))) (Tryz.f3.body.getD .skip) [a0, a1] w R by kernel_rfl) h)
def sh5 (a0 a1 : Value) (w : World) (R : Value → World → Prop) : Prop :=
 CallF Tryz.prog 8 #[] w fun t12_1 w =>
 RunA Tryz.prog (Op.unary .not t12_1) fun t13_2 =>
 IfB t13_2 (
 R (.bool false) w) (
 RunW Tryz.prog (Builtin.len_ #[31] 3 #[a0]) w fun t15_3 =>
 RunA Tryz.prog (bin .gtr 3 (.tmp 15) (.const (.int .i64 21000)) t15_3 (.int .i64 21000)) fun t16_4 =>
 IfB t16_4 (
 CallF Tryz.prog 8 #[] w fun t22_5 w =>
 R t22_5 w) (
 RunW Tryz.prog (Builtin.len_ #[31] 3 #[a1]) w fun t19_6 =>
 RunA Tryz.prog (bin .gtr 3 (.tmp 19) (.const (.int .i64 21000)) t19_6 (.int .i64 21000)) fun t20_7 =>
 IfB t20_7 (
 CallF Tryz.prog 8 #[] w fun t22_8 w =>
 R t22_8 w) (
 CallF Tryz.prog 10 #[a0] w fun t25_9 w =>
 RunA Tryz.prog (Instr.extract t25_9 0) fun t26_10 =>
 RunA Tryz.prog (Instr.extract t25_9 1) fun t27_11 =>
 RunV Tryz.prog (Instr.alloc 27 true (.tuple #[])) w fun t5_12 w =>
 RunU Tryz.prog (Instr.storeAt 27 t5_12 t26_10) w fun w =>
 CallF Tryz.prog 10 #[a1] w fun t30_13 w =>
 RunA Tryz.prog (Instr.extract t30_13 0) fun t31_14 =>
 RunA Tryz.prog (Instr.extract t30_13 1) fun t32_15 =>
 RunV Tryz.prog (Instr.alloc 27 true (.tuple #[])) w fun t7_16 w =>
 RunU Tryz.prog (Instr.storeAt 27 t7_16 t31_14) w fun w =>
 jn 3 (fun t5_17 t7_18 t8_19 w =>
 lp 2 (fun n_23 t9_21 t10_22 w =>
 RunA Tryz.prog (Instr.fieldAt 27 t5_17 1) fun t64_24 =>
 RunW Tryz.prog (Instr.loadAt 25 t64_24) w fun t65_25 =>
 RunW Tryz.prog (Builtin.len_ #[25] 3 #[t65_25]) w fun t66_26 =>
 RunA Tryz.prog (bin .lss 3 (.tmp 63) (.tmp 66) t10_22 t66_26) fun t67_27 =>
 IfB t67_27 (
 RunA Tryz.prog (Instr.fieldAt 27 t5_17 1) fun t70_28 =>
 RunW Tryz.prog (Instr.loadAt 25 t70_28) w fun t71_29 =>
 RunA Tryz.prog (Instr.indexAt 25 t71_29 t10_22) fun t73_30 =>
 RunW Tryz.prog (Instr.loadAt 34 t73_30) w fun t74_31 =>
 RunV Tryz.prog (Instr.alloc 34 true (.tuple #[])) w fun t11_32 w =>
 RunU Tryz.prog (Instr.storeAt 34 t11_32 t74_31) w fun w =>
 drw (fun S_33 w =>
 RunA Tryz.prog (Instr.fieldAt 34 t11_32 1) fun t75_34 =>
 RunS Tryz.prog S_33 (Instr.loadAt 9 t75_34) fun t76_35 =>
 RunS Tryz.prog S_33 (bin .eql 9 (.tmp 76) (.const (.string ⟨#[]⟩)) t76_35 (.string ⟨#[]⟩)) fun t77_36 =>
 IfB t77_36 (
 R (.bool false) w) (
 RunA Tryz.prog (Instr.fieldAt 34 t11_32 0) fun t79_37 =>
 RunS Tryz.prog S_33 (Instr.loadAt 3 t79_37) fun t80_38 =>
 RunS Tryz.prog S_33 (bin .neq 3 (.tmp 80) (.tmp 81) t80_38 t10_22) fun t82_39 =>
 IfB t82_39 (
 R (.bool false) w) (
 RunA Tryz.prog (Instr.fieldAt 34 t11_32 4) fun t85_40 =>
 RunS Tryz.prog S_33 (Instr.loadAt 3 t85_40) fun t86_41 =>
 RunA Tryz.prog (bin .lss 3 (.tmp 86) (.const (.int .i64 0)) t86_41 (.int .i64 0)) fun t87_42 =>
 IfB t87_42 (
 R (.bool false) w) (
 RunA Tryz.prog (Instr.fieldAt 34 t11_32 1) fun t90_43 =>
 RunS Tryz.prog S_33 (Instr.loadAt 9 t90_43) fun t91_44 =>
 RunS Tryz.prog S_33 (Builtin.len_ #[9] 3 #[t91_44]) fun t92_45 =>
 RunA Tryz.prog (bin .gtr 3 (.tmp 92) (.const (.int .i64 500)) t92_45 (.int .i64 500)) fun t93_46 =>
 IfB t93_46 (
 R (.bool false) w) (
 RunA Tryz.prog (Instr.fieldAt 34 t11_32 2) fun t96_47 =>
 RunS Tryz.prog S_33 (Instr.loadAt 9 t96_47) fun t97_48 =>
 RunS Tryz.prog S_33 (Builtin.len_ #[9] 3 #[t97_48]) fun t98_49 =>
 RunA Tryz.prog (bin .gtr 3 (.tmp 98) (.const (.int .i64 500)) t98_49 (.int .i64 500)) fun t99_50 =>
 IfB t99_50 (
 R (.bool false) w) (
 RunA Tryz.prog (Instr.fieldAt 34 t11_32 3) fun t102_51 =>
 RunS Tryz.prog S_33 (Instr.loadAt 9 t102_51) fun t103_52 =>
 RunS Tryz.prog S_33 (Builtin.len_ #[9] 3 #[t103_52]) fun t104_53 =>
 RunA Tryz.prog (bin .gtr 3 (.tmp 104) (.const (.int .i64 500)) t104_53 (.int .i64 500)) fun t105_54 =>
 IfB t105_54 (
 R (.bool false) w) (
 RunA Tryz.prog (Instr.fieldAt 34 t11_32 1) fun t108_55 =>
 RunS Tryz.prog S_33 (Instr.loadAt 9 t108_55) fun t109_56 =>
 RunA Tryz.prog (Instr.fieldAt 34 t11_32 1) fun t111_57 =>
 RunS Tryz.prog S_33 (Instr.loadAt 9 t111_57) fun t112_58 =>
 CallF Tryz.prog 15 #[t109_56] w fun t110_59 w =>
 S_33 w ∧ (
 RunS Tryz.prog S_33 (bin .neq 9 (.tmp 110) (.tmp 112) t110_59 t112_58) fun t113_60 =>
 IfB t113_60 (
 R (.bool false) w) (
 RunA Tryz.prog (Instr.fieldAt 34 t11_32 2) fun t116_61 =>
 RunS Tryz.prog S_33 (Instr.loadAt 9 t116_61) fun t117_62 =>
 RunA Tryz.prog (Instr.fieldAt 34 t11_32 2) fun t119_63 =>
 RunS Tryz.prog S_33 (Instr.loadAt 9 t119_63) fun t120_64 =>
 CallF Tryz.prog 15 #[t117_62] w fun t118_65 w =>
 S_33 w ∧ (
 RunS Tryz.prog S_33 (bin .neq 9 (.tmp 118) (.tmp 120) t118_65 t120_64) fun t121_66 =>
 IfB t121_66 (
 R (.bool false) w) (
 RunA Tryz.prog (Instr.fieldAt 34 t11_32 3) fun t124_67 =>
 RunS Tryz.prog S_33 (Instr.loadAt 9 t124_67) fun t125_68 =>
 RunA Tryz.prog (Instr.fieldAt 34 t11_32 3) fun t127_69 =>
 RunS Tryz.prog S_33 (Instr.loadAt 9 t127_69) fun t128_70 =>
 CallF Tryz.prog 15 #[t125_68] w fun t126_71 w =>
 S_33 w ∧ (
 RunS Tryz.prog S_33 (bin .neq 9 (.tmp 126) (.tmp 128) t126_71 t128_70) fun t129_72 =>
 IfB t129_72 (
 R (.bool false) w) (
 RunA Tryz.prog (Instr.fieldAt 34 t11_32 1) fun t133_73 =>
 RunS Tryz.prog S_33 (Instr.loadAt 9 t133_73) fun t134_74 =>
 CallF Tryz.prog 14 #[t9_21, t134_74] w fun t135_75 w =>
 S_33 w ∧ (
 IfB t135_75 (
 R (.bool false) w) (
 RunA Tryz.prog (Instr.fieldAt 34 t11_32 1) fun t138_76 =>
 RunW Tryz.prog (Instr.loadAt 9 t138_76) w fun t139_77 =>
 RunV Tryz.prog (Instr.buildSlice 22 1 #[(0, t139_77)]) w fun t140_78 w =>
 RunV Tryz.prog (Builtin.append_ #[22, 22] 22 #[t9_21, t140_78]) w fun t141_79 w =>
 RunA Tryz.prog (bin .add 3 (.tmp 68) (.const (.int .i64 1)) t10_22 (.int .i64 1)) fun t69_80 =>
 (t5_17 : Value) = t5_17 ∧ ((t7_18 : Value) = t7_18 ∧ ((t8_19 : Value) = t8_19 ∧ (n_23 t141_79 t69_80 w)))))))))))))))))) w) (
 CallF Tryz.prog 8 #[] w fun t142_81 w =>
 IfB t142_81 (
 RunW Tryz.prog (bin .eql 28 (.tmp 144) (.const (.int .i64 0)) t8_19 (.int .i64 0)) w fun t145_82 =>
 IfB t145_82 (
 R (.bool true) w) (
 RunA Tryz.prog (Instr.fieldAt 27 t7_18 1) fun t147_83 =>
 RunW Tryz.prog (Instr.loadAt 25 t147_83) w fun t148_84 =>
 RunW Tryz.prog (Builtin.len_ #[25] 3 #[t148_84]) w fun t149_85 =>
 RunW Tryz.prog (bin .eql 3 (.tmp 149) (.const (.int .i64 0)) t149_85 (.int .i64 0)) w fun t150_86 =>
 R t150_86 w)) (
 R (.bool false) w))) [(.slice none 0 0), (.int .i64 0)] w) fun j_20 =>
 drw (fun S_87 w =>
 RunS Tryz.prog S_87 (bin .neq 28 (.tmp 33) (.const (.int .i64 0)) t27_11 (.int .i64 0)) fun t34_88 =>
 IfB t34_88 (
 RunA Tryz.prog (Instr.fieldAt 27 t5_12 0) fun t36_89 =>
 RunS Tryz.prog S_87 (Instr.loadAt 9 t36_89) fun t37_90 =>
 RunS Tryz.prog S_87 (bin .neq 9 (.tmp 37) (.const (.string ⟨#[]⟩)) t37_90 (.string ⟨#[]⟩)) fun t38_91 =>
 IfB t38_91 (
 R (.bool false) w) (
 RunA Tryz.prog (Instr.fieldAt 27 t5_12 1) fun t40_92 =>
 RunS Tryz.prog S_87 (Instr.loadAt 25 t40_92) fun t41_93 =>
 RunS Tryz.prog S_87 (Builtin.len_ #[25] 3 #[t41_93]) fun t42_94 =>
 RunA Tryz.prog (bin .gtr 3 (.tmp 42) (.const (.int .i64 0)) t42_94 (.int .i64 0)) fun t43_95 =>
 IfB t43_95 (
 R (.bool false) w) (
 RunS Tryz.prog S_87 (Instr.loadAt 27 t5_12) fun t47_96 =>
 RunS Tryz.prog S_87 (Instr.loadAt 27 t7_16) fun t48_97 =>
 RunS Tryz.prog S_87 (Instr.loadAt 27 t5_12) fun t50_98 =>
 RunS Tryz.prog S_87 (Instr.loadAt 27 t7_16) fun t52_99 =>
 CallF Tryz.prog 16 #[t47_96, t48_97] w fun t49_100 w =>
 S_87 w ∧ (
 CallF Tryz.prog 18 #[t50_98] w fun t51_101 w =>
 S_87 w ∧ (
 CallF Tryz.prog 18 #[t52_99] w fun t53_102 w =>
 S_87 w ∧ (
 CallF Tryz.prog 17 #[t51_101, t53_102] w fun t54_103 w =>
 S_87 w ∧ (
 RunS Tryz.prog S_87 (bin .neq 4 (.tmp 49) (.tmp 54) t49_100 t54_103) fun t55_104 =>
 IfB t55_104 (
 R (.bool false) w) (
 RunA Tryz.prog (Instr.fieldAt 27 t5_12 1) fun t58_105 =>
 RunS Tryz.prog S_87 (Instr.loadAt 25 t58_105) fun t59_106 =>
 RunS Tryz.prog S_87 (Builtin.len_ #[25] 3 #[t59_106]) fun t60_107 =>
 RunA Tryz.prog (bin .gtr 3 (.tmp 60) (.const (.int .i64 200)) t60_107 (.int .i64 200)) fun t61_108 =>
 IfB t61_108 (
 R (.bool false) w) (
 j_20 t5_12 t7_16 t32_15 w))))))))) (
 RunS Tryz.prog S_87 (Instr.loadAt 27 t5_12) fun t47_109 =>
 RunS Tryz.prog S_87 (Instr.loadAt 27 t7_16) fun t48_110 =>
 RunS Tryz.prog S_87 (Instr.loadAt 27 t5_12) fun t50_111 =>
 RunS Tryz.prog S_87 (Instr.loadAt 27 t7_16) fun t52_112 =>
 CallF Tryz.prog 16 #[t47_109, t48_110] w fun t49_113 w =>
 S_87 w ∧ (
 CallF Tryz.prog 18 #[t50_111] w fun t51_114 w =>
 S_87 w ∧ (
 CallF Tryz.prog 18 #[t52_112] w fun t53_115 w =>
 S_87 w ∧ (
 CallF Tryz.prog 17 #[t51_114, t53_115] w fun t54_116 w =>
 S_87 w ∧ (
 RunS Tryz.prog S_87 (bin .neq 4 (.tmp 49) (.tmp 54) t49_113 t54_116) fun t55_117 =>
 IfB t55_117 (
 R (.bool false) w) (
 RunA Tryz.prog (Instr.fieldAt 27 t5_12 1) fun t58_118 =>
 RunS Tryz.prog S_87 (Instr.loadAt 25 t58_118) fun t59_119 =>
 RunS Tryz.prog S_87 (Builtin.len_ #[25] 3 #[t59_119]) fun t60_120 =>
 RunA Tryz.prog (bin .gtr 3 (.tmp 60) (.const (.int .i64 200)) t60_120 (.int .i64 200)) fun t61_121 =>
 IfB t61_121 (
 R (.bool false) w) (
 j_20 t5_12 t7_16 t32_15 w)))))))) w)))
theorem sh5_calls {a0 a1 : Value} {w : World} {R : Value → World → Prop} (h : sh5 a0 a1 w R) : CallF Tryz.prog 5 #[a0, a1] w R :=
  calls_of_denF (mk := false) (args := [a0, a1]) (an := (.seq (.ops [0, 1]) (.seq (.seq (.ops [0, 1, 13]) (.cond (.seq (.ops [4]) .leaf) .leaf)) (.seq (.seq (.ops [0, 1, 21]) (.cond (.seq (.ops [4]) .leaf) .leaf)) (.seq (.ops [1, 5, 6]) (.seq (.ops [5, 6, 7, 8]) (.seq (.join [5, 7, 8] (.seq (.draw (.q 0 (.q 1 (.q 2 (.sp 3 (.q 3 (.q 4 (.q 5 (.q 6 (.sp 7 (.q 7 (.q 8 (.q 9 (.q 10 (.q 11 (.q 12 (.q 13 (.q 14 (.q 15 (.q 16 (.q 17 (.q 18 (.q 19 (.q 20 (.q 21 (.q 22 (.q 23 (.q 24 (.q 25 (.q 26 (.q 27 (.q 28 (.q 29 .fin))))))))))))))))))))))) (.q 7 (.q 8 (.q 9 (.q 10 (.q 11 (.q 12 (.q 13 (.sp 14 (.q 14 (.q 15 (.q 16 (.q 17 (.q 18 (.q 19 (.q 20 (.q 21 (.q 22 (.q 23 (.q 24 (.q 25 (.q 26 (.q 27 (.q 28 (.q 29 .fin)))))))))))))))) (.q 14 (.q 15 (.q 17 (.q 19 (.one 16 (.one 18 (.one 20 (.one 21 (.q 22 (.q 23 (.q 24 (.sp 25 (.q 25 (.q 26 (.q 27 (.q 28 (.q 29 .fin))))) (.q 25 (.q 26 (.q 27 (.q 28 (.q 29 .fin)))))))))))))))))))))))))))))) (.q 3 (.q 4 (.q 5 (.q 6 (.q 7 (.q 8 (.q 9 (.q 10 (.q 11 (.q 12 (.q 13 (.q 14 (.q 15 (.q 17 (.q 19 (.one 16 (.one 18 (.one 20 (.one 21 (.q 22 (.q 23 (.q 24 (.sp 25 (.q 25 (.q 26 (.q 27 (.q 28 (.q 29 .fin))))) (.q 25 (.q 26 (.q 27 (.q 28 (.q 29 .fin)))))))))))))))))))))))))))))))) [5, 7, 8, 62]) (.cond (.seq (.ops [4]) .leaf) .leaf))) (.seq (.ops [5, 7, 8, 9]) (.seq (.seq (.ops [5, 7, 8, 9, 10]) (.blk (.loop [5, 7, 8] [9, 10] (.seq (.seq (.ops [5, 7, 8, 9, 10, 67]) (.cond .leaf .leaf)) (.seq (.blk (.seq (.ops [5, 7, 8, 9, 10, 11]) (.seq (.seq (.draw (.q 0 (.q 1 (.q 2 (.q 3 (.sp 4 (.q 4 (.q 5 (.q 6 (.q 7 (.q 8 (.q 9 (.q 10 (.q 11 (.q 12 (.q 13 (.q 14 (.q 15 (.q 16 (.q 17 (.q 18 (.q 19 (.q 20 (.q 21 (.q 22 (.q 23 (.q 24 (.q 25 (.q 26 (.q 27 (.q 28 (.q 29 (.q 30 (.q 31 (.q 32 (.q 33 (.q 34 (.q 35 (.q 36 (.q 37 (.q 38 (.q 39 (.q 40 (.q 41 (.q 42 (.q 43 (.q 44 (.q 45 (.q 46 (.q 47 (.q 48 (.q 49 (.q 50 (.q 51 (.q 52 (.q 53 (.q 54 (.q 55 (.q 56 (.q 57 (.q 58 (.q 59 (.q 60 (.q 61 .fin)))))))))))))))))))))))))))))))))))))))))))))))))))))))))) (.q 4 (.q 5 (.q 6 (.q 7 (.q 8 (.q 9 (.sp 10 (.q 10 (.q 11 (.q 12 (.q 13 (.q 14 (.q 15 (.q 16 (.q 17 (.q 18 (.q 19 (.q 20 (.q 21 (.q 22 (.q 23 (.q 24 (.q 25 (.q 26 (.q 27 (.q 28 (.q 29 (.q 30 (.q 31 (.q 32 (.q 33 (.q 34 (.q 35 (.q 36 (.q 37 (.q 38 (.q 39 (.q 40 (.q 41 (.q 42 (.q 43 (.q 44 (.q 45 (.q 46 (.q 47 (.q 48 (.q 49 (.q 50 (.q 51 (.q 52 (.q 53 (.q 54 (.q 55 (.q 56 (.q 57 (.q 58 (.q 59 (.q 60 (.q 61 .fin)))))))))))))))))))))))))))))))))))))))))))))))))))) (.q 10 (.q 11 (.q 12 (.q 13 (.q 14 (.sp 15 (.q 15 (.q 16 (.q 17 (.q 18 (.q 19 (.q 20 (.q 21 (.q 22 (.q 23 (.q 24 (.q 25 (.q 26 (.q 27 (.q 28 (.q 29 (.q 30 (.q 31 (.q 32 (.q 33 (.q 34 (.q 35 (.q 36 (.q 37 (.q 38 (.q 39 (.q 40 (.q 41 (.q 42 (.q 43 (.q 44 (.q 45 (.q 46 (.q 47 (.q 48 (.q 49 (.q 50 (.q 51 (.q 52 (.q 53 (.q 54 (.q 55 (.q 56 (.q 57 (.q 58 (.q 59 (.q 60 (.q 61 .fin))))))))))))))))))))))))))))))))))))))))))))))) (.q 15 (.q 16 (.q 17 (.q 18 (.q 19 (.q 20 (.sp 21 (.q 21 (.q 22 (.q 23 (.q 24 (.q 25 (.q 26 (.q 27 (.q 28 (.q 29 (.q 30 (.q 31 (.q 32 (.q 33 (.q 34 (.q 35 (.q 36 (.q 37 (.q 38 (.q 39 (.q 40 (.q 41 (.q 42 (.q 43 (.q 44 (.q 45 (.q 46 (.q 47 (.q 48 (.q 49 (.q 50 (.q 51 (.q 52 (.q 53 (.q 54 (.q 55 (.q 56 (.q 57 (.q 58 (.q 59 (.q 60 (.q 61 .fin))))))))))))))))))))))))))))))))))))))))) (.q 21 (.q 22 (.q 23 (.q 24 (.q 25 (.q 26 (.sp 27 (.q 27 (.q 28 (.q 29 (.q 30 (.q 31 (.q 32 (.q 33 (.q 34 (.q 35 (.q 36 (.q 37 (.q 38 (.q 39 (.q 40 (.q 41 (.q 42 (.q 43 (.q 44 (.q 45 (.q 46 (.q 47 (.q 48 (.q 49 (.q 50 (.q 51 (.q 52 (.q 53 (.q 54 (.q 55 (.q 56 (.q 57 (.q 58 (.q 59 (.q 60 (.q 61 .fin))))))))))))))))))))))))))))))))))) (.q 27 (.q 28 (.q 29 (.q 30 (.q 31 (.q 32 (.sp 33 (.q 33 (.q 34 (.q 35 (.q 36 (.q 37 (.q 38 (.q 39 (.q 40 (.q 41 (.q 42 (.q 43 (.q 44 (.q 45 (.q 46 (.q 47 (.q 48 (.q 49 (.q 50 (.q 51 (.q 52 (.q 53 (.q 54 (.q 55 (.q 56 (.q 57 (.q 58 (.q 59 (.q 60 (.q 61 .fin))))))))))))))))))))))))))))) (.q 33 (.q 34 (.q 36 (.q 37 (.one 35 (.q 38 (.q 39 (.q 40 (.sp 41 (.q 41 (.q 42 (.q 43 (.q 44 (.q 45 (.q 46 (.q 47 (.q 48 (.q 49 (.q 50 (.q 51 (.q 52 (.q 53 (.q 54 (.q 55 (.q 56 (.q 57 (.q 58 (.q 59 (.q 60 (.q 61 .fin))))))))))))))))))))) (.q 41 (.q 42 (.q 44 (.q 45 (.one 43 (.q 46 (.q 47 (.q 48 (.sp 49 (.q 49 (.q 50 (.q 51 (.q 52 (.q 53 (.q 54 (.q 55 (.q 56 (.q 57 (.q 58 (.q 59 (.q 60 (.q 61 .fin))))))))))))) (.q 49 (.q 50 (.q 52 (.q 53 (.one 51 (.q 54 (.q 55 (.q 56 (.sp 57 (.q 57 (.q 58 (.q 59 (.q 60 (.q 61 .fin))))) (.q 57 (.q 58 (.q 59 (.one 60 (.q 61 .fin))))))))))))))))))))))))))))))))))))))))))))))))))))))))))))))))))))))) [5, 7, 8, 9, 10, 11, 136]) (.cond (.seq (.ops [4]) .leaf) .leaf)) (.ops [5, 7, 8, 9, 10])))) (.ops [5, 7, 8, 9, 10])))))) (.seq (.ops [4]) .leaf)))))))))) (c := Tryz.f5.body.getD .skip) hentD Tryz.func5 rfl (Nat.le_of_ble_eq_true (by kernel_rfl))
    (Eq.mp (show sh5 a0 a1 w R = denF Tryz.prog entD false Tryz.f5 (.seq (.ops [0, 1]) (.seq (.seq (.ops [0, 1, 13]) (.cond (.seq (.ops [4]) .leaf) .leaf)) (.seq (.seq (.ops [0, 1, 21]) (.cond (.seq (.ops [4]) .leaf) .leaf)) (.seq (.ops [1, 5, 6]) (.seq (.ops [5, 6, 7, 8]) (.seq (.join [5, 7, 8] (.seq (.draw (.q 0 (.q 1 (.q 2 (.sp 3 (.q 3 (.q 4 (.q 5 (.q 6 (.sp 7 (.q 7 (.q 8 (.q 9 (.q 10 (.q 11 (.q 12 (.q 13 (.q 14 (.q 15 (.q 16 (.q 17 (.q 18 (.q 19 (.q 20 (.q 21 (.q 22 (.q 23 (.q 24 (.q 25 (.q 26 (.q 27 (.q 28 (.q 29 .fin))))))))))))))))))))))) (.q 7 (.q 8 (.q 9 (.q 10 (.q 11 (.q 12 (.q 13 (.sp 14 (.q 14 (.q 15 (.q 16 (.q 17 (.q 18 (.q 19 (.q 20 (.q 21 (.q 22 (.q 23 (.q 24 (.q 25 (.q 26 (.q 27 (.q 28 (.q 29 .fin)))))))))))))))) (.q 14 (.q 15 (.q 17 (.q 19 (.one 16 (.one 18 (.one 20 (.one 21 (.q 22 (.q 23 (.q 24 (.sp 25 (.q 25 (.q 26 (.q 27 (.q 28 (.q 29 .fin))))) (.q 25 (.q 26 (.q 27 (.q 28 (.q 29 .fin)))))))))))))))))))))))))))))) (.q 3 (.q 4 (.q 5 (.q 6 (.q 7 (.q 8 (.q 9 (.q 10 (.q 11 (.q 12 (.q 13 (.q 14 (.q 15 (.q 17 (.q 19 (.one 16 (.one 18 (.one 20 (.one 21 (.q 22 (.q 23 (.q 24 (.sp 25 (.q 25 (.q 26 (.q 27 (.q 28 (.q 29 .fin))))) (.q 25 (.q 26 (.q 27 (.q 28 (.q 29 .fin)))))))))))))))))))))))))))))))) [5, 7, 8, 62]) (.cond (.seq (.ops [4]) .leaf) .leaf))) (.seq (.ops [5, 7, 8, 9]) (.seq (.seq (.ops [5, 7, 8, 9, 10]) (.blk (.loop [5, 7, 8] [9, 10] (.seq (.seq (.ops [5, 7, 8, 9, 10, 67]) (.cond .leaf .leaf)) (.seq (.blk (.seq (.ops [5, 7, 8, 9, 10, 11]) (.seq (.seq (.draw (.q 0 (.q 1 (.q 2 (.q 3 (.sp 4 (.q 4 (.q 5 (.q 6 (.q 7 (.q 8 (.q 9 (.q 10 (.q 11 (.q 12 (.q 13 (.q 14 (.q 15 (.q 16 (.q 17 (.q 18 (.q 19 (.q 20 (.q 21 (.q 22 (.q 23 (.q 24 (.q 25 (.q 26 (.q 27 (.q 28 (.q 29 (.q 30 (.q 31 (.q 32 (.q 33 (.q 34 (.q 35 (.q 36 (.q 37 (.q 38 (.q 39 (.q 40 (.q 41 (.q 42 (.q 43 (.q 44 (.q 45 (.q 46 (.q 47 (.q 48 (.q 49 (.q 50 (.q 51 (.q 52 (.q 53 (.q 54 (.q 55 (.q 56 (.q 57 (.q 58 (.q 59 (.q 60 (.q 61 .fin)))))))))))))))))))))))))))))))))))))))))))))))))))))))))) (.q 4 (.q 5 (.q 6 (.q 7 (.q 8 (.q 9 (.sp 10 (.q 10 (.q 11 (.q 12 (.q 13 (.q 14 (.q 15 (.q 16 (.q 17 (.q 18 (.q 19 (.q 20 (.q 21 (.q 22 (.q 23 (.q 24 (.q 25 (.q 26 (.q 27 (.q 28 (.q 29 (.q 30 (.q 31 (.q 32 (.q 33 (.q 34 (.q 35 (.q 36 (.q 37 (.q 38 (.q 39 (.q 40 (.q 41 (.q 42 (.q 43 (.q 44 (.q 45 (.q 46 (.q 47 (.q 48 (.q 49 (.q 50 (.q 51 (.q 52 (.q 53 (.q 54 (.q 55 (.q 56 (.q 57 (.q 58 (.q 59 (.q 60 (.q 61 .fin)))))))))))))))))))))))))))))))))))))))))))))))))))) (.q 10 (.q 11 (.q 12 (.q 13 (.q 14 (.sp 15 (.q 15 (.q 16 (.q 17 (.q 18 (.q 19 (.q 20 (.q 21 (.q 22 (.q 23 (.q 24 (.q 25 (.q 26 (.q 27 (.q 28 (.q 29 (.q 30 (.q 31 (.q 32 (.q 33 (.q 34 (.q 35 (.q 36 (.q 37 (.q 38 (.q 39 (.q 40 (.q 41 (.q 42 (.q 43 (.q 44 (.q 45 (.q 46 (.q 47 (.q 48 (.q 49 (.q 50 (.q 51 (.q 52 (.q 53 (.q 54 (.q 55 (.q 56 (.q 57 (.q 58 (.q 59 (.q 60 (.q 61 .fin))))))))))))))))))))))))))))))))))))))))))))))) (.q 15 (.q 16 (.q 17 (.q 18 (.q 19 (.q 20 (.sp 21 (.q 21 (.q 22 (.q 23 (.q 24 (.q 25 (.q 26 (.q 27 (.q 28 (.q 29 (.q 30 (.q 31 (.q 32 (.q 33 (.q 34 (.q 35 (.q 36 (.q 37 (.q 38 (.q 39 (.q 40 (.q 41 (.q 42 (.q 43 (.q 44 (.q 45 (.q 46 (.q 47 (.q 48 (.q 49 (.q 50 (.q 51 (.q 52 (.q 53 (.q 54 (.q 55 (.q 56 (.q 57 (.q 58 (.q 59 (.q 60 (.q 61 .fin))))))))))))))))))))))))))))))))))))))))) (.q 21 (.q 22 (.q 23 (.q 24 (.q 25 (.q 26 (.sp 27 (.q 27 (.q 28 (.q 29 (.q 30 (.q 31 (.q 32 (.q 33 (.q 34 (.q 35 (.q 36 (.q 37 (.q 38 (.q 39 (.q 40 (.q 41 (.q 42 (.q 43 (.q 44 (.q 45 (.q 46 (.q 47 (.q 48 (.q 49 (.q 50 (.q 51 (.q 52 (.q 53 (.q 54 (.q 55 (.q 56 (.q 57 (.q 58 (.q 59 (.q 60 (.q 61 .fin))))))))))))))))))))))))))))))))))) (.q 27 (.q 28 (.q 29 (.q 30 (.q 31 (.q 32 (.sp 33 (.q 33 (.q 34 (.q 35 (.q 36 (.q 37 (.q 38 (.q 39 (.q 40 (.q 41 (.q 42 (.q 43 (.q 44 (.q 45 (.q 46 (.q 47 (.q 48 (.q 49 (.q 50 (.q 51 (.q 52 (.q 53 (.q 54 (.q 55 (.q 56 (.q 57 (.q 58 (.q 59 (.q 60 (.q 61 .fin))))))))))))))))))))))))))))) (.q 33 (.q 34 (.q 36 (.q 37 (.one 35 (.q 38 (.q 39 (.q 40 (.sp 41 (.q 41 (.q 42 (.q 43 (.q 44 (.q 45 (.q 46 (.q 47 (.q 48 (.q 49 (.q 50 (.q 51 (.q 52 (.q 53 (.q 54 (.q 55 (.q 56 (.q 57 (.q 58 (.q 59 (.q 60 (.q 61 .fin))))))))))))))))))))) (.q 41 (.q 42 (.q 44 (.q 45 (.one 43 (.q 46 (.q 47 (.q 48 (.sp 49 (.q 49 (.q 50 (.q 51 (.q 52 (.q 53 (.q 54 (.q 55 (.q 56 (.q 57 (.q 58 (.q 59 (.q 60 (.q 61 .fin))))))))))))) (.q 49 (.q 50 (.q 52 (.q 53 (.one 51 (.q 54 (.q 55 (.q 56 (.sp 57 (.q 57 (.q 58 (.q 59 (.q 60 (.q 61 .fin))))) (.q 57 (.q 58 (.q 59 (.one 60 (.q 61 .fin))))))))))))))))))))))))))))))))))))))))))))))))))))))))))))))))))))))) [5, 7, 8, 9, 10, 11, 136]) (.cond (.seq (.ops [4]) .leaf) .leaf)) (.ops [5, 7, 8, 9, 10])))) (.ops [5, 7, 8, 9, 10])))))) (.seq (.ops [4]) .leaf))))))))) (Tryz.f5.body.getD .skip) [a0, a1] w R by kernel_rfl) h)
def sh6 (a0 a1 a2 a3 : Value) (w : World) (R : Value → World → Prop) : Prop :=
 CallF Tryz.prog 8 #[] w fun t21_1 w =>
 RunA Tryz.prog (Op.unary .not t21_1) fun t22_2 =>
 IfB t22_2 (
 R (.bool false) w) (
 CallF Tryz.prog 9 #[a0] w fun t24_3 w =>
 RunA Tryz.prog (Op.unary .not t24_3) fun t25_4 =>
 IfB t25_4 (
 CallF Tryz.prog 8 #[] w fun t38_5 w =>
 R t38_5 w) (
 RunW Tryz.prog (Builtin.len_ #[22] 3 #[a1]) w fun t28_6 =>
 RunA Tryz.prog (bin .gtr 3 (.tmp 28) (.const (.int .i64 30)) t28_6 (.int .i64 30)) fun t29_7 =>
 IfB t29_7 (
 CallF Tryz.prog 8 #[] w fun t38_8 w =>
 R t38_8 w) (
 RunW Tryz.prog (Builtin.len_ #[22] 3 #[a2]) w fun t33_9 =>
 RunW Tryz.prog (Builtin.len_ #[22] 3 #[a1]) w fun t35_10 =>
 RunW Tryz.prog (bin .neq 3 (.tmp 33) (.tmp 35) t33_9 t35_10) w fun t36_11 =>
 IfB t36_11 (
 CallF Tryz.prog 8 #[] w fun t38_12 w =>
 R t38_12 w) (
 RunA Tryz.prog (bin .add 9 (.const (.string ⟨#[60, 114, 115, 115, 62, 60, 99, 104, 97, 110, 110, 101, 108, 62, 60, 116, 105, 116, 108, 101, 62, 32]⟩)) (.tmp 39) (.string ⟨#[60, 114, 115, 115, 62, 60, 99, 104, 97, 110, 110, 101, 108, 62, 60, 116, 105, 116, 108, 101, 62, 32]⟩) a0) fun t40_13 =>
 RunA Tryz.prog (bin .add 9 (.tmp 40) (.const (.string ⟨#[10, 60, 47, 116, 105, 116, 108, 101, 62]⟩)) t40_13 (.string ⟨#[10, 60, 47, 116, 105, 116, 108, 101, 62]⟩)) fun t41_14 =>
 RunA Tryz.prog (bin .add 9 (.const (.string ⟨#[60, 102, 101, 101, 100, 32, 120, 109, 108, 110, 115, 61, 34, 104, 116, 116, 112, 58, 47, 47, 119, 119, 119, 46, 119, 51, 46, 111, 114, 103, 47, 50, 48, 48, 53, 47, 65, 116, 111, 109, 34, 62, 60, 116, 105, 116, 108, 101, 62]⟩)) (.tmp 42) (.string ⟨#[60, 102, 101, 101, 100, 32, 120, 109, 108, 110, 115, 61, 34, 104, 116, 116, 112, 58, 47, 47, 119, 119, 119, 46, 119, 51, 46, 111, 114, 103, 47, 50, 48, 48, 53, 47, 65, 116, 111, 109, 34, 62, 60, 116, 105, 116, 108, 101, 62]⟩) a0) fun t43_15 =>
 RunA Tryz.prog (bin .add 9 (.tmp 43) (.const (.string ⟨#[60, 47, 116, 105, 116, 108, 101, 62]⟩)) t43_15 (.string ⟨#[60, 47, 116, 105, 116, 108, 101, 62]⟩)) fun t44_16 =>
 lp 5 (fun n_22 t9_17 t10_18 t11_19 t12_20 t13_21 w =>
 RunW Tryz.prog (Builtin.len_ #[22] 3 #[a1]) w fun t47_23 =>
 RunA Tryz.prog (bin .lss 3 (.tmp 45) (.tmp 47) t13_21 t47_23) fun t48_24 =>
 IfB t48_24 (
 RunA Tryz.prog (Instr.indexAt 22 a1 t13_21) fun t53_25 =>
 RunW Tryz.prog (Instr.loadAt 9 t53_25) w fun t54_26 =>
 CallF Tryz.prog 9 #[t54_26] w fun t55_27 w =>
 RunA Tryz.prog (Op.unary .not t55_27) fun t56_28 =>
 IfB t56_28 (
 CallF Tryz.prog 8 #[] w fun t65_29 w =>
 R t65_29 w) (
 RunA Tryz.prog (Instr.indexAt 22 a2 t13_21) fun t60_30 =>
 RunW Tryz.prog (Instr.loadAt 9 t60_30) w fun t61_31 =>
 CallF Tryz.prog 9 #[t61_31] w fun t62_32 w =>
 RunA Tryz.prog (Op.unary .not t62_32) fun t63_33 =>
 IfB t63_33 (
 CallF Tryz.prog 8 #[] w fun t65_34 w =>
 R t65_34 w) (
 jn 12 (fun t0_35 t1_36 t2_37 t3_38 t9_39 t10_40 t11_41 t12_42 t13_43 t14_44 t15_45 t16_46 w =>
 drw (fun S_48 w =>
 RunA Tryz.prog (Instr.indexAt 22 t1_36 t13_43) fun t70_49 =>
 RunS Tryz.prog S_48 (Instr.loadAt 9 t70_49) fun t71_50 =>
 RunA Tryz.prog (bin .add 9 (.const (.string ⟨#[60, 105, 116, 101, 109, 62, 60, 103, 117, 105, 100, 62]⟩)) (.tmp 71) (.string ⟨#[60, 105, 116, 101, 109, 62, 60, 103, 117, 105, 100, 62]⟩) t71_50) fun t72_51 =>
 RunA Tryz.prog (bin .add 9 (.tmp 72) (.const (.string ⟨#[60, 47, 103, 117, 105, 100, 62, 60, 116, 105, 116, 108, 101, 62]⟩)) t72_51 (.string ⟨#[60, 47, 103, 117, 105, 100, 62, 60, 116, 105, 116, 108, 101, 62]⟩)) fun t73_52 =>
 RunA Tryz.prog (Instr.indexAt 22 t2_37 t13_43) fun t76_53 =>
 RunS Tryz.prog S_48 (Instr.loadAt 9 t76_53) fun t77_54 =>
 RunA Tryz.prog (bin .add 9 (.tmp 73) (.tmp 77) t73_52 t77_54) fun t78_55 =>
 RunA Tryz.prog (bin .add 9 (.tmp 78) (.const (.string ⟨#[60, 47, 116, 105, 116, 108, 101, 62, 60, 108, 105, 110, 107, 62, 32, 108, 32, 60, 47, 108, 105, 110, 107, 62]⟩)) t78_55 (.string ⟨#[60, 47, 116, 105, 116, 108, 101, 62, 60, 108, 105, 110, 107, 62, 32, 108, 32, 60, 47, 108, 105, 110, 107, 62]⟩)) fun t79_56 =>
 RunA Tryz.prog (bin .add 9 (.tmp 79) (.tmp 80) t79_56 t14_44) fun t81_57 =>
 RunA Tryz.prog (bin .add 9 (.tmp 81) (.const (.string ⟨#[60, 47, 105, 116, 101, 109, 62]⟩)) t81_57 (.string ⟨#[60, 47, 105, 116, 101, 109, 62]⟩)) fun t82_58 =>
 RunA Tryz.prog (bin .add 9 (.tmp 67) (.tmp 82) t9_39 t82_58) fun t83_59 =>
 drw (fun S_60 w =>
 RunA Tryz.prog (Instr.indexAt 22 t1_36 t13_43) fun t87_61 =>
 RunS Tryz.prog S_60 (Instr.loadAt 9 t87_61) fun t88_62 =>
 RunA Tryz.prog (bin .add 9 (.const (.string ⟨#[60, 101, 110, 116, 114, 121, 62, 60, 105, 100, 62]⟩)) (.tmp 88) (.string ⟨#[60, 101, 110, 116, 114, 121, 62, 60, 105, 100, 62]⟩) t88_62) fun t89_63 =>
 RunA Tryz.prog (bin .add 9 (.tmp 89) (.const (.string ⟨#[60, 47, 105, 100, 62, 60, 116, 105, 116, 108, 101, 62]⟩)) t89_63 (.string ⟨#[60, 47, 105, 100, 62, 60, 116, 105, 116, 108, 101, 62]⟩)) fun t90_64 =>
 RunA Tryz.prog (Instr.indexAt 22 t2_37 t13_43) fun t93_65 =>
 RunS Tryz.prog S_60 (Instr.loadAt 9 t93_65) fun t94_66 =>
 RunA Tryz.prog (bin .add 9 (.tmp 90) (.tmp 94) t90_64 t94_66) fun t95_67 =>
 RunA Tryz.prog (bin .add 9 (.tmp 95) (.const (.string ⟨#[60, 47, 116, 105, 116, 108, 101, 62, 60, 108, 105, 110, 107, 32, 114, 101, 108, 61, 34, 115, 101, 108, 102, 34, 32, 104, 114, 101, 102, 61, 34, 120, 34, 47, 62, 60, 108, 105, 110, 107, 32, 104, 114, 101, 102, 61, 34, 108, 34, 47, 62]⟩)) t95_67 (.string ⟨#[60, 47, 116, 105, 116, 108, 101, 62, 60, 108, 105, 110, 107, 32, 114, 101, 108, 61, 34, 115, 101, 108, 102, 34, 32, 104, 114, 101, 102, 61, 34, 120, 34, 47, 62, 60, 108, 105, 110, 107, 32, 104, 114, 101, 102, 61, 34, 108, 34, 47, 62]⟩)) fun t96_68 =>
 RunA Tryz.prog (bin .add 9 (.tmp 96) (.tmp 97) t96_68 t15_45) fun t98_69 =>
 RunA Tryz.prog (bin .add 9 (.tmp 98) (.const (.string ⟨#[60, 47, 101, 110, 116, 114, 121, 62]⟩)) t98_69 (.string ⟨#[60, 47, 101, 110, 116, 114, 121, 62]⟩)) fun t99_70 =>
 RunA Tryz.prog (bin .add 9 (.tmp 84) (.tmp 99) t10_40 t99_70) fun t100_71 =>
 jn 9 (fun t0_72 t1_73 t2_74 t3_75 t9_76 t10_77 t11_78 t12_79 t13_80 w =>
 RunA Tryz.prog (bin .add 3 (.tmp 49) (.const (.int .i64 1)) t13_80 (.int .i64 1)) fun t50_82 =>
 (t0_72 : Value) = a0 ∧ ((t1_73 : Value) = a1 ∧ ((t2_74 : Value) = a2 ∧ ((t3_75 : Value) = a3 ∧ (n_22 t9_76 t10_77 t11_78 t12_79 t50_82 w))))) fun j_81 =>
 RunA Tryz.prog (Instr.indexAt 22 t1_36 t13_43) fun t104_83 =>
 RunW Tryz.prog (Instr.loadAt 9 t104_83) w fun t105_84 =>
 CallF Tryz.prog 14 #[t12_42, t105_84] w fun t106_85 w =>
 RunA Tryz.prog (Op.unary .not t106_85) fun t107_86 =>
 IfB t107_86 (
 drw (fun S_87 w =>
 RunS Tryz.prog S_87 (Builtin.len_ #[25] 3 #[t11_41]) fun t110_88 =>
 RunA Tryz.prog (Instr.indexAt 22 t1_36 t13_43) fun t113_89 =>
 RunS Tryz.prog S_87 (Instr.loadAt 9 t113_89) fun t114_90 =>
 RunA Tryz.prog (Instr.indexAt 22 t2_37 t13_43) fun t117_91 =>
 RunS Tryz.prog S_87 (Instr.loadAt 9 t117_91) fun t118_92 =>
 RunV Tryz.prog (Instr.build 34 #[(0, t110_88), (1, t114_90), (2, t118_92), (3, (.string ⟨#[108]⟩)), (4, t16_46)]) w fun t120_93 w =>
 RunV Tryz.prog (Instr.buildSlice 25 1 #[(0, t120_93)]) w fun t121_94 w =>
 RunV Tryz.prog (Builtin.append_ #[25, 25] 25 #[t11_41, t121_94]) w fun t122_95 w =>
 RunA Tryz.prog (Instr.indexAt 22 t1_36 t13_43) fun t126_96 =>
 RunW Tryz.prog (Instr.loadAt 9 t126_96) w fun t127_97 =>
 RunV Tryz.prog (Instr.buildSlice 22 1 #[(0, t127_97)]) w fun t128_98 w =>
 RunV Tryz.prog (Builtin.append_ #[22, 22] 22 #[t12_42, t128_98]) w fun t129_99 w =>
 j_81 t0_35 t1_36 t2_37 t3_38 t83_59 t100_71 t122_95 t129_99 t13_43 w) w) (
 j_81 t0_35 t1_36 t2_37 t3_38 t83_59 t100_71 t11_41 t12_42 t13_43 w)) w) w) fun j_47 =>
 IfB a3 (
 j_47 a0 a1 a2 a3 t9_17 t10_18 t11_19 t12_20 t13_21 (.string ⟨#[60, 112, 117, 98, 68, 97, 116, 101, 62, 48, 49, 32, 74, 97, 110, 32, 49, 57, 55, 48, 32, 48, 48, 58, 48, 49, 58, 48, 48, 32, 71, 77, 84, 60, 47, 112, 117, 98, 68, 97, 116, 101, 62]⟩) (.string ⟨#[60, 117, 112, 100, 97, 116, 101, 100, 62, 49, 57, 55, 48, 45, 48, 49, 45, 48, 49, 84, 48, 48, 58, 48, 49, 58, 48, 48, 90, 60, 47, 117, 112, 100, 97, 116, 101, 100, 62]⟩) (.int .i64 60) w) (
 j_47 a0 a1 a2 a3 t9_17 t10_18 t11_19 t12_20 t13_21 (.string ⟨#[]⟩) (.string ⟨#[]⟩) (.int .i64 0) w)))) (
 RunA Tryz.prog (bin .add 9 (.tmp 130) (.const (.string ⟨#[60, 47, 99, 104, 97, 110, 110, 101, 108, 62, 60, 47, 114, 115, 115, 62]⟩)) t9_17 (.string ⟨#[60, 47, 99, 104, 97, 110, 110, 101, 108, 62, 60, 47, 114, 115, 115, 62]⟩)) fun t131_100 =>
 RunA Tryz.prog (bin .add 9 (.tmp 132) (.const (.string ⟨#[60, 47, 102, 101, 101, 100, 62]⟩)) t10_18 (.string ⟨#[60, 47, 102, 101, 101, 100, 62]⟩)) fun t133_101 =>
 RunW Tryz.prog (Builtin.len_ #[9] 3 #[t131_100]) w fun t135_102 =>
 RunA Tryz.prog (bin .gtr 3 (.tmp 135) (.const (.int .i64 20000)) t135_102 (.int .i64 20000)) fun t136_103 =>
 IfB t136_103 (
 CallF Tryz.prog 8 #[] w fun t142_104 w =>
 R t142_104 w) (
 RunW Tryz.prog (Builtin.len_ #[9] 3 #[t133_101]) w fun t139_105 =>
 RunA Tryz.prog (bin .gtr 3 (.tmp 139) (.const (.int .i64 20000)) t139_105 (.int .i64 20000)) fun t140_106 =>
 IfB t140_106 (
 CallF Tryz.prog 8 #[] w fun t142_107 w =>
 R t142_107 w) (
 RunV Tryz.prog (convert 9 31 t131_100) w fun t145_108 w =>
 CallF Tryz.prog 10 #[t145_108] w fun t146_109 w =>
 RunA Tryz.prog (Instr.extract t146_109 0) fun t147_110 =>
 RunA Tryz.prog (Instr.extract t146_109 1) fun t148_111 =>
 RunV Tryz.prog (Instr.alloc 27 true (.tuple #[])) w fun t17_112 w =>
 RunU Tryz.prog (Instr.storeAt 27 t17_112 t147_110) w fun w =>
 RunV Tryz.prog (convert 9 31 t133_101) w fun t151_113 w =>
 CallF Tryz.prog 10 #[t151_113] w fun t152_114 w =>
 RunA Tryz.prog (Instr.extract t152_114 0) fun t153_115 =>
 RunA Tryz.prog (Instr.extract t152_114 1) fun t154_116 =>
 RunV Tryz.prog (Instr.alloc 27 true (.tuple #[])) w fun t19_117 w =>
 RunU Tryz.prog (Instr.storeAt 27 t19_117 t153_115) w fun w =>
 CallF Tryz.prog 8 #[] w fun t155_118 w =>
 IfB t155_118 (
 RunW Tryz.prog (bin .eql 28 (.tmp 157) (.const (.int .i64 0)) t148_111 (.int .i64 0)) w fun t158_119 =>
 IfB t158_119 (
 RunW Tryz.prog (bin .eql 28 (.tmp 161) (.const (.int .i64 0)) t154_116 (.int .i64 0)) w fun t162_120 =>
 IfB t162_120 (
 RunW Tryz.prog (Instr.loadAt 27 t17_112) w fun t165_121 =>
 RunW Tryz.prog (Instr.loadAt 27 t19_117) w fun t166_122 =>
 CallF Tryz.prog 16 #[t165_121, t166_122] w fun t167_123 w =>
 IfB t167_123 (
 RunA Tryz.prog (Instr.fieldAt 27 t17_112 0) fun t170_124 =>
 RunW Tryz.prog (Instr.loadAt 9 t170_124) w fun t171_125 =>
 RunW Tryz.prog (bin .eql 9 (.tmp 171) (.tmp 172) t171_125 a0) w fun t173_126 =>
 IfB t173_126 (
 RunA Tryz.prog (Instr.fieldAt 27 t17_112 1) fun t176_127 =>
 RunW Tryz.prog (Instr.loadAt 25 t176_127) w fun t177_128 =>
 CallF Tryz.prog 19 #[t177_128, t11_19] w fun t179_129 w =>
 R t179_129 w) (
 R (.bool false) w)) (
 R (.bool false) w)) (
 R (.bool false) w)) (
 R (.bool false) w)) (
 R (.bool false) w))))) [t41_14, t44_16, (.slice none 0 0), (.slice none 0 0), (.int .i64 0)] w))))
theorem sh6_calls {a0 a1 a2 a3 : Value} {w : World} {R : Value → World → Prop} (h : sh6 a0 a1 a2 a3 w R) : CallF Tryz.prog 6 #[a0, a1, a2, a3] w R :=
  calls_of_denF (mk := false) (args := [a0, a1, a2, a3]) (an := (.seq (.ops [0, 1, 2, 3]) (.seq (.seq (.ops [0, 1, 2, 3, 22]) (.cond (.seq (.ops [8]) .leaf) .leaf)) (.seq (.seq (.ops [0, 1, 2, 3, 37]) (.cond (.seq (.ops [8]) .leaf) .leaf)) (.seq (.ops [0, 1, 2, 3, 9]) (.seq (.ops [0, 1, 2, 3, 9, 10]) (.seq (.ops [0, 1, 2, 3, 9, 10, 11]) (.seq (.ops [0, 1, 2, 3, 9, 10, 11, 12]) (.seq (.seq (.ops [0, 1, 2, 3, 9, 10, 11, 12, 13]) (.blk (.loop [0, 1, 2, 3] [9, 10, 11, 12, 13] (.seq (.seq (.ops [0, 1, 2, 3, 9, 10, 11, 12, 13, 48]) (.cond .leaf .leaf)) (.seq (.blk (.seq (.seq (.ops [0, 1, 2, 3, 9, 10, 11, 12, 13, 64]) (.cond (.seq (.ops [8]) .leaf) .leaf)) (.seq (.ops [0, 1, 2, 3, 9, 10, 11, 12, 13, 14, 15, 16]) (.seq (.join [0, 1, 2, 3, 9, 10, 11, 12, 13, 14, 15, 16] (.seq (.ops [0, 1, 2, 3, 9, 10, 11, 12, 13, 14, 15, 16, 66]) (.cond (.ops [0, 1, 2, 3, 9, 10, 11, 12, 13, 14, 15, 16]) .leaf))) (.seq (.draw (.q 0 (.q 1 (.q 2 (.q 3 (.q 4 (.q 5 (.q 6 (.q 7 (.q 8 (.q 9 (.q 10 (.q 11 (.q 12 (.q 13 (.q 14 (.q 15 (.q 16 (.q 17 .fin)))))))))))))))))) [0, 1, 2, 3, 9, 10, 11, 12, 13, 15, 16]) (.seq (.draw (.q 0 (.q 1 (.q 2 (.q 3 (.q 4 (.q 5 (.q 6 (.q 7 (.q 8 (.q 9 (.q 10 (.q 11 (.q 12 (.q 13 (.q 14 (.q 15 (.q 16 (.q 17 .fin)))))))))))))))))) [0, 1, 2, 3, 9, 10, 11, 12, 13, 16]) (.join [0, 1, 2, 3, 9, 10, 11, 12, 13] (.seq (.ops [0, 1, 2, 3, 9, 10, 11, 12, 13, 16, 107]) (.cond (.seq (.draw (.q 0 (.q 1 (.q 2 (.q 3 (.q 4 (.q 5 (.q 6 (.q 7 (.q 8 (.q 9 (.q 10 (.q 11 (.one 12 (.one 13 (.one 14 (.q 15 .fin)))))))))))))))) [0, 1, 2, 3, 9, 10, 11, 12, 13]) (.ops [0, 1, 2, 3, 9, 10, 11, 12, 13])) .leaf))))))))) (.ops [0, 1, 2, 3, 9, 10, 11, 12, 13])))))) (.seq (.ops [0, 9, 10, 11]) (.seq (.seq (.ops [0, 9, 10, 11, 141]) (.cond (.seq (.ops [8]) .leaf) .leaf)) (.seq (.ops [0, 10, 11, 17, 18]) (.seq (.ops [0, 11, 17, 18, 19, 20]) (.seq (.ops [8]) .leaf)))))))))))))) (c := Tryz.f6.body.getD .skip) hentD Tryz.func6 rfl (Nat.le_of_ble_eq_true (by kernel_rfl))
    (Eq.mp (show sh6 a0 a1 a2 a3 w R = denF Tryz.prog entD false Tryz.f6 (.seq (.ops [0, 1, 2, 3]) (.seq (.seq (.ops [0, 1, 2, 3, 22]) (.cond (.seq (.ops [8]) .leaf) .leaf)) (.seq (.seq (.ops [0, 1, 2, 3, 37]) (.cond (.seq (.ops [8]) .leaf) .leaf)) (.seq (.ops [0, 1, 2, 3, 9]) (.seq (.ops [0, 1, 2, 3, 9, 10]) (.seq (.ops [0, 1, 2, 3, 9, 10, 11]) (.seq (.ops [0, 1, 2, 3, 9, 10, 11, 12]) (.seq (.seq (.ops [0, 1, 2, 3, 9, 10, 11, 12, 13]) (.blk (.loop [0, 1, 2, 3] [9, 10, 11, 12, 13] (.seq (.seq (.ops [0, 1, 2, 3, 9, 10, 11, 12, 13, 48]) (.cond .leaf .leaf)) (.seq (.blk (.seq (.seq (.ops [0, 1, 2, 3, 9, 10, 11, 12, 13, 64]) (.cond (.seq (.ops [8]) .leaf) .leaf)) (.seq (.ops [0, 1, 2, 3, 9, 10, 11, 12, 13, 14, 15, 16]) (.seq (.join [0, 1, 2, 3, 9, 10, 11, 12, 13, 14, 15, 16] (.seq (.ops [0, 1, 2, 3, 9, 10, 11, 12, 13, 14, 15, 16, 66]) (.cond (.ops [0, 1, 2, 3, 9, 10, 11, 12, 13, 14, 15, 16]) .leaf))) (.seq (.draw (.q 0 (.q 1 (.q 2 (.q 3 (.q 4 (.q 5 (.q 6 (.q 7 (.q 8 (.q 9 (.q 10 (.q 11 (.q 12 (.q 13 (.q 14 (.q 15 (.q 16 (.q 17 .fin)))))))))))))))))) [0, 1, 2, 3, 9, 10, 11, 12, 13, 15, 16]) (.seq (.draw (.q 0 (.q 1 (.q 2 (.q 3 (.q 4 (.q 5 (.q 6 (.q 7 (.q 8 (.q 9 (.q 10 (.q 11 (.q 12 (.q 13 (.q 14 (.q 15 (.q 16 (.q 17 .fin)))))))))))))))))) [0, 1, 2, 3, 9, 10, 11, 12, 13, 16]) (.join [0, 1, 2, 3, 9, 10, 11, 12, 13] (.seq (.ops [0, 1, 2, 3, 9, 10, 11, 12, 13, 16, 107]) (.cond (.seq (.draw (.q 0 (.q 1 (.q 2 (.q 3 (.q 4 (.q 5 (.q 6 (.q 7 (.q 8 (.q 9 (.q 10 (.q 11 (.one 12 (.one 13 (.one 14 (.q 15 .fin)))))))))))))))) [0, 1, 2, 3, 9, 10, 11, 12, 13]) (.ops [0, 1, 2, 3, 9, 10, 11, 12, 13])) .leaf))))))))) (.ops [0, 1, 2, 3, 9, 10, 11, 12, 13])))))) (.seq (.ops [0, 9, 10, 11]) (.seq (.seq (.ops [0, 9, 10, 11, 141]) (.cond (.seq (.ops [8]) .leaf) .leaf)) (.seq (.ops [0, 10, 11, 17, 18]) (.seq (.ops [0, 11, 17, 18, 19, 20]) (.seq (.ops [8]) .leaf))))))))))))) (Tryz.f6.body.getD .skip) [a0, a1, a2, a3] w R by kernel_rfl) h)
def sh8 (w : World) (R : Value → World → Prop) : Prop :=
 RunV Tryz.prog (Instr.buildSlice 31 73 #[(0, (.int .u8 60)), (1, (.int .u8 114)), (2, (.int .u8 115)), (3, (.int .u8 115)), (4, (.int .u8 62)), (5, (.int .u8 60)), (6, (.int .u8 99)), (7, (.int .u8 104)), (8, (.int .u8 97)), (9, (.int .u8 110)), (10, (.int .u8 110)), (11, (.int .u8 101)), (12, (.int .u8 108)), (13, (.int .u8 62)), (14, (.int .u8 60)), (15, (.int .u8 116)), (16, (.int .u8 105)), (17, (.int .u8 116)), (18, (.int .u8 108)), (19, (.int .u8 101)), (20, (.int .u8 62)), (21, (.int .u8 84)), (22, (.int .u8 60)), (23, (.int .u8 47)), (24, (.int .u8 116)), (25, (.int .u8 105)), (26, (.int .u8 116)), (27, (.int .u8 108)), (28, (.int .u8 101)), (29, (.int .u8 62)), (30, (.int .u8 60)), (31, (.int .u8 105)), (32, (.int .u8 116)), (33, (.int .u8 101)), (34, (.int .u8 109)), (35, (.int .u8 62)), (36, (.int .u8 60)), (37, (.int .u8 108)), (38, (.int .u8 105)), (39, (.int .u8 110)), (40, (.int .u8 107)), (41, (.int .u8 62)), (42, (.int .u8 117)), (43, (.int .u8 60)), (44, (.int .u8 47)), (45, (.int .u8 108)), (46, (.int .u8 105)), (47, (.int .u8 110)), (48, (.int .u8 107)), (49, (.int .u8 62)), (50, (.int .u8 60)), (51, (.int .u8 47)), (52, (.int .u8 105)), (53, (.int .u8 116)), (54, (.int .u8 101)), (55, (.int .u8 109)), (56, (.int .u8 62)), (57, (.int .u8 60)), (58, (.int .u8 47)), (59, (.int .u8 99)), (60, (.int .u8 104)), (61, (.int .u8 97)), (62, (.int .u8 110)), (63, (.int .u8 110)), (64, (.int .u8 101)), (65, (.int .u8 108)), (66, (.int .u8 62)), (67, (.int .u8 60)), (68, (.int .u8 47)), (69, (.int .u8 114)), (70, (.int .u8 115)), (71, (.int .u8 115)), (72, (.int .u8 62))]) w fun t4_1 w =>
 RunV Tryz.prog (convert 31 31 t4_1) w fun t5_2 w =>
 CallF Tryz.prog 10 #[t5_2] w fun t6_3 w =>
 RunA Tryz.prog (Instr.extract t6_3 0) fun t7_4 =>
 RunA Tryz.prog (Instr.extract t6_3 1) fun t8_5 =>
 RunV Tryz.prog (Instr.alloc 27 true (.tuple #[])) w fun t1_6 w =>
 RunU Tryz.prog (Instr.storeAt 27 t1_6 t7_4) w fun w =>
 RunW Tryz.prog (bin .eql 28 (.tmp 9) (.const (.int .i64 0)) t8_5 (.int .i64 0)) w fun t10_7 =>
 IfB t10_7 (
 RunA Tryz.prog (Instr.fieldAt 27 t1_6 0) fun t12_8 =>
 RunW Tryz.prog (Instr.loadAt 9 t12_8) w fun t13_9 =>
 RunW Tryz.prog (bin .eql 9 (.tmp 13) (.const (.string ⟨#[84]⟩)) t13_9 (.string ⟨#[84]⟩)) w fun t14_10 =>
 IfB t14_10 (
 RunA Tryz.prog (Instr.fieldAt 27 t1_6 1) fun t17_11 =>
 RunW Tryz.prog (Instr.loadAt 25 t17_11) w fun t18_12 =>
 RunW Tryz.prog (Builtin.len_ #[25] 3 #[t18_12]) w fun t19_13 =>
 RunW Tryz.prog (bin .eql 3 (.tmp 19) (.const (.int .i64 1)) t19_13 (.int .i64 1)) w fun t20_14 =>
 IfB t20_14 (
 RunA Tryz.prog (Instr.fieldAt 27 t1_6 1) fun t23_15 =>
 RunW Tryz.prog (Instr.loadAt 25 t23_15) w fun t24_16 =>
 RunA Tryz.prog (Instr.indexAt 25 t24_16 (.int .i64 0)) fun t25_17 =>
 RunA Tryz.prog (Instr.fieldAt 34 t25_17 1) fun t26_18 =>
 RunW Tryz.prog (Instr.loadAt 9 t26_18) w fun t27_19 =>
 RunW Tryz.prog (bin .eql 9 (.tmp 27) (.const (.string ⟨#[117]⟩)) t27_19 (.string ⟨#[117]⟩)) w fun t28_20 =>
 IfB t28_20 (
 RunA Tryz.prog (Instr.fieldAt 27 t1_6 1) fun t31_21 =>
 RunW Tryz.prog (Instr.loadAt 25 t31_21) w fun t32_22 =>
 RunA Tryz.prog (Instr.indexAt 25 t32_22 (.int .i64 0)) fun t33_23 =>
 RunA Tryz.prog (Instr.fieldAt 34 t33_23 3) fun t34_24 =>
 RunW Tryz.prog (Instr.loadAt 9 t34_24) w fun t35_25 =>
 RunW Tryz.prog (bin .eql 9 (.tmp 35) (.const (.string ⟨#[117]⟩)) t35_25 (.string ⟨#[117]⟩)) w fun t36_26 =>
 IfB t36_26 (
 RunA Tryz.prog (Instr.fieldAt 27 t1_6 1) fun t39_27 =>
 RunW Tryz.prog (Instr.loadAt 25 t39_27) w fun t40_28 =>
 RunA Tryz.prog (Instr.indexAt 25 t40_28 (.int .i64 0)) fun t41_29 =>
 RunA Tryz.prog (Instr.fieldAt 34 t41_29 4) fun t42_30 =>
 RunW Tryz.prog (Instr.loadAt 3 t42_30) w fun t43_31 =>
 RunW Tryz.prog (bin .eql 3 (.tmp 43) (.const (.int .i64 0)) t43_31 (.int .i64 0)) w fun t44_32 =>
 R t44_32 w) (
 R (.bool false) w)) (
 R (.bool false) w)) (
 R (.bool false) w)) (
 R (.bool false) w)) (
 R (.bool false) w)
theorem sh8_calls {w : World} {R : Value → World → Prop} (h : sh8  w R) : CallF Tryz.prog 8 #[] w R :=
  calls_of_denF (mk := false) (args := []) (an := (.seq (.ops []) (.seq (.ops [1, 2]) (.seq (.ops [0]) .leaf)))) (c := Tryz.f8.body.getD .skip) hentD Tryz.func8 rfl (Nat.le_of_ble_eq_true (by kernel_rfl))
    (Eq.mp (show sh8  w R = denF Tryz.prog entD false Tryz.f8 (.seq (.ops []) (.seq (.ops [1, 2]) (.seq (.ops [0]) .leaf))) (Tryz.f8.body.getD .skip) [] w R by kernel_rfl) h)
def sh9 (a0 : Value) (w : World) (R : Value → World → Prop) : Prop :=
 lp 1 (fun n_2 t3_1 w =>
 RunW Tryz.prog (Builtin.len_ #[9] 3 #[a0]) w fun t6_3 =>
 RunA Tryz.prog (bin .lss 3 (.tmp 4) (.tmp 6) t3_1 t6_3) fun t7_4 =>
 IfB t7_4 (
 RunA Tryz.prog (Instr.index 9 a0 t3_1) fun t12_5 =>
 RunA Tryz.prog (bin .lss 5 (.tmp 12) (.const (.int .u8 97)) t12_5 (.int .u8 97)) fun t13_6 =>
 IfB t13_6 (
 R (.bool false) w) (
 RunA Tryz.prog (Instr.index 9 a0 t3_1) fun t17_7 =>
 RunA Tryz.prog (bin .gtr 5 (.tmp 17) (.const (.int .u8 122)) t17_7 (.int .u8 122)) fun t18_8 =>
 IfB t18_8 (
 R (.bool false) w) (
 RunA Tryz.prog (bin .add 3 (.tmp 8) (.const (.int .i64 1)) t3_1 (.int .i64 1)) fun t9_9 =>
 (a0 : Value) = a0 ∧ (n_2 t9_9 w)))) (
 RunW Tryz.prog (Builtin.len_ #[9] 3 #[a0]) w fun t21_10 =>
 RunA Tryz.prog (bin .geq 3 (.tmp 21) (.const (.int .i64 1)) t21_10 (.int .i64 1)) fun t22_11 =>
 IfB t22_11 (
 RunW Tryz.prog (Builtin.len_ #[9] 3 #[a0]) w fun t25_12 =>
 RunA Tryz.prog (bin .leq 3 (.tmp 25) (.const (.int .i64 100)) t25_12 (.int .i64 100)) fun t26_13 =>
 R t26_13 w) (
 R (.bool false) w))) [(.int .i64 0)] w
theorem sh9_calls {a0 : Value} {w : World} {R : Value → World → Prop} (h : sh9 a0 w R) : CallF Tryz.prog 9 #[a0] w R :=
  calls_of_denF (mk := false) (args := [a0]) (an := (.seq (.ops [0]) (.seq (.seq (.ops [0, 3]) (.blk (.loop [0] [3] (.seq (.seq (.ops [0, 3, 7]) (.cond .leaf .leaf)) (.seq (.blk (.seq (.ops [0, 3, 19]) (.cond (.seq (.ops [2]) .leaf) .leaf))) (.ops [0, 3])))))) (.seq (.ops [2]) .leaf)))) (c := Tryz.f9.body.getD .skip) hentD Tryz.func9 rfl (Nat.le_of_ble_eq_true (by kernel_rfl))
    (Eq.mp (show sh9 a0 w R = denF Tryz.prog entD false Tryz.f9 (.seq (.ops [0]) (.seq (.seq (.ops [0, 3]) (.blk (.loop [0] [3] (.seq (.seq (.ops [0, 3, 7]) (.cond .leaf .leaf)) (.seq (.blk (.seq (.ops [0, 3, 19]) (.cond (.seq (.ops [2]) .leaf) .leaf))) (.ops [0, 3])))))) (.seq (.ops [2]) .leaf))) (Tryz.f9.body.getD .skip) [a0] w R by kernel_rfl) h)
def sh10 (a0 : Value) (w : World) (R : Value → World → Prop) : Prop :=
 RunV Tryz.prog (Instr.alloc 27 true (.tuple #[])) w fun t2_1 w =>
 CallF Tryz.prog 26 #[a0] w fun t11_2 w =>
 RunA Tryz.prog (Instr.extract t11_2 0) fun t12_3 =>
 RunA Tryz.prog (Instr.extract t11_2 1) fun t13_4 =>
 RunW Tryz.prog (bin .neq 28 (.tmp 14) (.const (.int .i64 0)) t13_4 (.int .i64 0)) w fun t15_5 =>
 IfB t15_5 (
 RunV Tryz.prog (Instr.build 27 #[]) w fun t16_6 w =>
 RunU Tryz.prog (Instr.storeAt 27 t2_1 t16_6) w fun w =>
 RunW Tryz.prog (Instr.loadAt 27 t2_1) w fun t2_7 =>
 R (.tuple #[t2_7, t13_4]) w) (
 CallF Tryz.prog 27 #[t12_3] w fun t20_8 w =>
 RunA Tryz.prog (Instr.extract t20_8 0) fun t21_9 =>
 RunA Tryz.prog (Instr.extract t20_8 1) fun t22_10 =>
 RunV Tryz.prog (Instr.alloc 27 true (.tuple #[])) w fun t6_11 w =>
 RunU Tryz.prog (Instr.storeAt 27 t6_11 t21_9) w fun w =>
 RunA Tryz.prog (Op.unary .not t22_10) fun t24_12 =>
 IfB t24_12 (
 RunV Tryz.prog (Instr.build 27 #[]) w fun t25_13 w =>
 RunU Tryz.prog (Instr.storeAt 27 t2_1 t25_13) w fun w =>
 RunW Tryz.prog (Instr.loadAt 27 t2_1) w fun t2_14 =>
 R (.tuple #[t2_14, (.int .i64 4)]) w) (
 RunW Tryz.prog (Instr.loadAt 27 t6_11) w fun t26_15 =>
 CallF Tryz.prog 28 #[t26_15] w fun t27_16 w =>
 RunW Tryz.prog (bin .neq 28 (.tmp 28) (.const (.int .i64 0)) t27_16 (.int .i64 0)) w fun t29_17 =>
 IfB t29_17 (
 RunV Tryz.prog (Instr.build 27 #[]) w fun t30_18 w =>
 RunU Tryz.prog (Instr.storeAt 27 t2_1 t30_18) w fun w =>
 RunW Tryz.prog (Instr.loadAt 27 t2_1) w fun t2_19 =>
 R (.tuple #[t2_19, t27_16]) w) (
 RunW Tryz.prog (Instr.loadAt 27 t6_11) w fun t32_20 =>
 RunU Tryz.prog (Instr.storeAt 27 t2_1 t32_20) w fun w =>
 RunW Tryz.prog (Instr.loadAt 27 t2_1) w fun t2_21 =>
 R (.tuple #[t2_21, (.int .i64 0)]) w)))
theorem sh10_calls {a0 : Value} {w : World} {R : Value → World → Prop} (h : sh10 a0 w R) : CallF Tryz.prog 10 #[a0] w R :=
  calls_of_denF (mk := false) (args := [a0]) (an := (.seq (.ops [0, 2]) (.seq (.ops [2, 4, 5]) (.seq (.seq (.ops [2, 4, 5, 15]) (.cond (.seq (.ops [2, 3]) .leaf) .leaf)) (.seq (.ops [2, 6, 7]) (.seq (.seq (.ops [2, 6, 24]) (.cond (.seq (.ops [2, 3]) .leaf) .leaf)) (.seq (.seq (.ops [2, 6, 8]) (.seq (.ops [2, 6, 8, 29]) (.cond (.seq (.ops [2, 3]) .leaf) .leaf))) (.seq (.ops [2, 3]) .leaf)))))))) (c := Tryz.f10.body.getD .skip) hentD Tryz.func10 rfl (Nat.le_of_ble_eq_true (by kernel_rfl))
    (Eq.mp (show sh10 a0 w R = denF Tryz.prog entD false Tryz.f10 (.seq (.ops [0, 2]) (.seq (.ops [2, 4, 5]) (.seq (.seq (.ops [2, 4, 5, 15]) (.cond (.seq (.ops [2, 3]) .leaf) .leaf)) (.seq (.ops [2, 6, 7]) (.seq (.seq (.ops [2, 6, 24]) (.cond (.seq (.ops [2, 3]) .leaf) .leaf)) (.seq (.seq (.ops [2, 6, 8]) (.seq (.ops [2, 6, 8, 29]) (.cond (.seq (.ops [2, 3]) .leaf) .leaf))) (.seq (.ops [2, 3]) .leaf))))))) (Tryz.f10.body.getD .skip) [a0] w R by kernel_rfl) h)
def sh11 (a0 : Value) (w : World) (R : Value → World → Prop) : Prop :=
 lp 2 (fun n_3 t3_1 t4_2 w =>
 RunW Tryz.prog (Builtin.len_ #[22] 3 #[a0]) w fun t8_4 =>
 RunA Tryz.prog (bin .lss 3 (.tmp 6) (.tmp 8) t4_2 t8_4) fun t9_5 =>
 IfB t9_5 (
 jn 3 (fun t0_6 t3_7 t4_8 w =>
 RunA Tryz.prog (bin .add 3 (.tmp 10) (.const (.int .i64 1)) t4_8 (.int .i64 1)) fun t11_10 =>
 (t0_6 : Value) = a0 ∧ (n_3 t3_7 t11_10 w)) fun j_9 =>
 RunW Tryz.prog (Builtin.len_ #[22] 3 #[t3_1]) w fun t13_11 =>
 jn 4 (fun t0_12 t3_13 t4_14 t5_15 w =>
 jn 4 (fun t0_17 t3_18 t4_19 t5_20 w =>
 drw (fun S_22 w =>
 RunA Tryz.prog (Instr.sliceAt 22 t3_18 none (some t5_20) none) fun t47_23 =>
 RunA Tryz.prog (Instr.indexAt 22 t0_17 t4_19) fun t50_24 =>
 RunS Tryz.prog S_22 (Instr.loadAt 9 t50_24) fun t51_25 =>
 RunA Tryz.prog (Instr.sliceAt 22 t3_18 (some t5_20) none none) fun t55_26 =>
 RunV Tryz.prog (Instr.buildSlice 22 1 #[(0, t51_25)]) w fun t52_27 w =>
 RunV Tryz.prog (Builtin.append_ #[22, 22] 22 #[t52_27, t55_26]) w fun t56_28 w =>
 RunV Tryz.prog (Builtin.append_ #[22, 22] 22 #[t47_23, t56_28]) w fun t57_29 w =>
 j_9 t0_17 t57_29 t4_19 w) w) fun j_21 =>
 drw (fun S_30 w =>
 RunS Tryz.prog S_30 (Builtin.len_ #[22] 3 #[t3_13]) fun t32_31 =>
 RunA Tryz.prog (bin .lss 3 (.tmp 30) (.tmp 32) t5_15 t32_31) fun t33_32 =>
 IfB t33_32 (
 RunA Tryz.prog (Instr.indexAt 22 t3_13 t5_15) fun t37_33 =>
 RunS Tryz.prog S_30 (Instr.loadAt 9 t37_33) fun t38_34 =>
 RunA Tryz.prog (Instr.indexAt 22 t0_12 t4_14) fun t41_35 =>
 RunS Tryz.prog S_30 (Instr.loadAt 9 t41_35) fun t42_36 =>
 RunS Tryz.prog S_30 (bin .eql 9 (.tmp 38) (.tmp 42) t38_34 t42_36) fun t43_37 =>
 IfB t43_37 (
 j_9 t0_12 t3_13 t4_14 w) (
 j_21 t0_12 t3_13 t4_14 t5_15 w)) (
 j_21 t0_12 t3_13 t4_14 t5_15 w)) w) fun j_16 =>
 lp 1 (fun n_39 t5_38 w =>
 drw (fun S_40 w =>
 RunA Tryz.prog (bin .gtr 3 (.tmp 14) (.const (.int .i64 0)) t5_38 (.int .i64 0)) fun t15_41 =>
 IfB t15_41 (
 RunA Tryz.prog (bin .sub 3 (.tmp 18) (.const (.int .i64 1)) t5_38 (.int .i64 1)) fun t19_42 =>
 RunA Tryz.prog (Instr.indexAt 22 t3_1 t19_42) fun t20_43 =>
 RunS Tryz.prog S_40 (Instr.loadAt 9 t20_43) fun t21_44 =>
 RunA Tryz.prog (Instr.indexAt 22 a0 t4_2) fun t24_45 =>
 RunS Tryz.prog S_40 (Instr.loadAt 9 t24_45) fun t25_46 =>
 RunA Tryz.prog (bin .geq 9 (.tmp 21) (.tmp 25) t21_44 t25_46) fun t26_47 =>
 IfB t26_47 (
 RunA Tryz.prog (bin .sub 3 (.tmp 28) (.const (.int .i64 1)) t5_38 (.int .i64 1)) fun t29_48 =>
 (a0 : Value) = a0 ∧ ((t3_1 : Value) = t3_1 ∧ ((t4_2 : Value) = t4_2 ∧ (n_39 t29_48 w)))) (
 j_16 a0 t3_1 t4_2 t5_38 w)) (
 j_16 a0 t3_1 t4_2 t5_38 w)) w) [t13_11] w) (
 R t3_1 w)) [(.slice none 0 0), (.int .i64 0)] w
theorem sh11_calls {a0 : Value} {w : World} {R : Value → World → Prop} (h : sh11 a0 w R) : CallF Tryz.prog 11 #[a0] w R :=
  calls_of_denF (mk := false) (args := [a0]) (an := (.seq (.ops [0]) (.seq (.ops [0, 3]) (.seq (.seq (.ops [0, 3, 4]) (.blk (.loop [0] [3, 4] (.seq (.seq (.ops [0, 3, 4, 9]) (.cond .leaf .leaf)) (.seq (.join [0, 3, 4] (.blk (.seq (.ops [0, 3, 4, 5]) (.seq (.join [0, 3, 4, 5] (.blk (.loop [0, 3, 4] [5] (.seq (.seq (.draw (.q 0 (.q 1 (.q 2 (.sp 3 (.q 3 (.q 4 (.q 5 (.q 6 (.q 7 (.q 8 (.q 9 (.q 10 (.q 11 (.q 12 (.q 13 .fin))))))))))) (.q 3 (.q 4 (.q 5 (.q 6 (.q 7 (.q 8 (.q 9 (.q 10 (.q 11 (.q 12 (.q 13 .fin))))))))))))))) [0, 3, 4, 5, 27]) (.cond .leaf .leaf)) (.blk (.ops [0, 3, 4, 5])))))) (.seq (.join [0, 3, 4, 5] (.seq (.draw (.q 0 (.q 1 (.q 2 (.q 3 (.q 4 (.sp 5 (.q 5 (.q 6 (.q 7 (.q 8 (.q 9 (.q 10 (.q 11 (.q 12 (.q 13 (.q 14 .fin)))))))))) (.q 5 (.q 6 (.q 7 (.q 8 (.q 9 (.q 10 (.q 11 (.q 12 (.q 13 (.q 14 .fin)))))))))))))))) [0, 3, 4, 5, 44]) (.cond .leaf .leaf))) (.draw (.q 0 (.q 1 (.q 2 (.q 3 (.q 4 (.q 5 (.q 6 (.q 8 (.q 9 (.q 10 (.one 7 (.one 11 (.one 12 (.q 13 .fin)))))))))))))) [0, 3, 4])))))) (.ops [0, 3, 4])))))) (.seq (.ops [2]) .leaf))))) (c := Tryz.f11.body.getD .skip) hentD Tryz.func11 rfl (Nat.le_of_ble_eq_true (by kernel_rfl))
    (Eq.mp (show sh11 a0 w R = denF Tryz.prog entD false Tryz.f11 (.seq (.ops [0]) (.seq (.ops [0, 3]) (.seq (.seq (.ops [0, 3, 4]) (.blk (.loop [0] [3, 4] (.seq (.seq (.ops [0, 3, 4, 9]) (.cond .leaf .leaf)) (.seq (.join [0, 3, 4] (.blk (.seq (.ops [0, 3, 4, 5]) (.seq (.join [0, 3, 4, 5] (.blk (.loop [0, 3, 4] [5] (.seq (.seq (.draw (.q 0 (.q 1 (.q 2 (.sp 3 (.q 3 (.q 4 (.q 5 (.q 6 (.q 7 (.q 8 (.q 9 (.q 10 (.q 11 (.q 12 (.q 13 .fin))))))))))) (.q 3 (.q 4 (.q 5 (.q 6 (.q 7 (.q 8 (.q 9 (.q 10 (.q 11 (.q 12 (.q 13 .fin))))))))))))))) [0, 3, 4, 5, 27]) (.cond .leaf .leaf)) (.blk (.ops [0, 3, 4, 5])))))) (.seq (.join [0, 3, 4, 5] (.seq (.draw (.q 0 (.q 1 (.q 2 (.q 3 (.q 4 (.sp 5 (.q 5 (.q 6 (.q 7 (.q 8 (.q 9 (.q 10 (.q 11 (.q 12 (.q 13 (.q 14 .fin)))))))))) (.q 5 (.q 6 (.q 7 (.q 8 (.q 9 (.q 10 (.q 11 (.q 12 (.q 13 (.q 14 .fin)))))))))))))))) [0, 3, 4, 5, 44]) (.cond .leaf .leaf))) (.draw (.q 0 (.q 1 (.q 2 (.q 3 (.q 4 (.q 5 (.q 6 (.q 8 (.q 9 (.q 10 (.one 7 (.one 11 (.one 12 (.q 13 .fin)))))))))))))) [0, 3, 4])))))) (.ops [0, 3, 4])))))) (.seq (.ops [2]) .leaf)))) (Tryz.f11.body.getD .skip) [a0] w R by kernel_rfl) h)
def sh12 (a0 : Value) (w : World) (R : Value → World → Prop) : Prop :=
 RunV Tryz.prog (Instr.buildSlice 22 0 #[]) w fun t3_1 w =>
 RunV Tryz.prog (Builtin.append_ #[22, 22] 22 #[t3_1, a0]) w fun t5_2 w =>
 R t5_2 w
theorem sh12_calls {a0 : Value} {w : World} {R : Value → World → Prop} (h : sh12 a0 w R) : CallF Tryz.prog 12 #[a0] w R :=
  calls_of_denF (mk := false) (args := [a0]) (an := (.seq (.ops [0]) (.seq (.ops [2]) .leaf))) (c := Tryz.f12.body.getD .skip) hentD Tryz.func12 rfl (Nat.le_of_ble_eq_true (by kernel_rfl))
    (Eq.mp (show sh12 a0 w R = denF Tryz.prog entD false Tryz.f12 (.seq (.ops [0]) (.seq (.ops [2]) .leaf)) (Tryz.f12.body.getD .skip) [a0] w R by kernel_rfl) h)
def sh13 (a0 a1 : Value) (w : World) (R : Value → World → Prop) : Prop :=
 RunV Tryz.prog (Instr.box 34 a0) w fun t2_1 w =>
 RunV Tryz.prog (Instr.box 34 a1) w fun t3_2 w =>
 RunA Tryz.prog (Instr.fieldAt 34 t2_1 0) fun t5_3 =>
 RunW Tryz.prog (Instr.loadAt 3 t5_3) w fun t6_4 =>
 RunA Tryz.prog (Instr.fieldAt 34 t3_2 0) fun t7_5 =>
 RunW Tryz.prog (Instr.loadAt 3 t7_5) w fun t8_6 =>
 RunW Tryz.prog (bin .eql 3 (.tmp 6) (.tmp 8) t6_4 t8_6) w fun t9_7 =>
 IfB t9_7 (
 RunA Tryz.prog (Instr.fieldAt 34 t2_1 1) fun t11_8 =>
 RunW Tryz.prog (Instr.loadAt 9 t11_8) w fun t12_9 =>
 RunA Tryz.prog (Instr.fieldAt 34 t3_2 1) fun t13_10 =>
 RunW Tryz.prog (Instr.loadAt 9 t13_10) w fun t14_11 =>
 RunW Tryz.prog (bin .eql 9 (.tmp 12) (.tmp 14) t12_9 t14_11) w fun t15_12 =>
 IfB t15_12 (
 RunA Tryz.prog (Instr.fieldAt 34 t2_1 2) fun t18_13 =>
 RunW Tryz.prog (Instr.loadAt 9 t18_13) w fun t19_14 =>
 RunA Tryz.prog (Instr.fieldAt 34 t3_2 2) fun t20_15 =>
 RunW Tryz.prog (Instr.loadAt 9 t20_15) w fun t21_16 =>
 RunW Tryz.prog (bin .eql 9 (.tmp 19) (.tmp 21) t19_14 t21_16) w fun t22_17 =>
 IfB t22_17 (
 RunA Tryz.prog (Instr.fieldAt 34 t2_1 3) fun t25_18 =>
 RunW Tryz.prog (Instr.loadAt 9 t25_18) w fun t26_19 =>
 RunA Tryz.prog (Instr.fieldAt 34 t3_2 3) fun t27_20 =>
 RunW Tryz.prog (Instr.loadAt 9 t27_20) w fun t28_21 =>
 RunW Tryz.prog (bin .eql 9 (.tmp 26) (.tmp 28) t26_19 t28_21) w fun t29_22 =>
 IfB t29_22 (
 RunA Tryz.prog (Instr.fieldAt 34 t2_1 4) fun t32_23 =>
 RunW Tryz.prog (Instr.loadAt 3 t32_23) w fun t33_24 =>
 RunA Tryz.prog (Instr.fieldAt 34 t3_2 4) fun t34_25 =>
 RunW Tryz.prog (Instr.loadAt 3 t34_25) w fun t35_26 =>
 RunW Tryz.prog (bin .eql 3 (.tmp 33) (.tmp 35) t33_24 t35_26) w fun t36_27 =>
 R t36_27 w) (
 R (.bool false) w)) (
 R (.bool false) w)) (
 R (.bool false) w)) (
 R (.bool false) w)
theorem sh13_calls {a0 a1 : Value} {w : World} {R : Value → World → Prop} (h : sh13 a0 a1 w R) : CallF Tryz.prog 13 #[a0, a1] w R :=
  calls_of_denF (mk := false) (args := [a0, a1]) (an := (.seq (.ops [2, 3]) (.seq (.ops [4]) .leaf))) (c := Tryz.f13.body.getD .skip) hentD Tryz.func13 rfl (Nat.le_of_ble_eq_true (by kernel_rfl))
    (Eq.mp (show sh13 a0 a1 w R = denF Tryz.prog entD false Tryz.f13 (.seq (.ops [2, 3]) (.seq (.ops [4]) .leaf)) (Tryz.f13.body.getD .skip) [a0, a1] w R by kernel_rfl) h)
def sh14 (a0 a1 : Value) (w : World) (R : Value → World → Prop) : Prop :=
 lp 1 (fun n_2 t5_1 w =>
 RunW Tryz.prog (Builtin.len_ #[22] 3 #[a0]) w fun t8_3 =>
 RunA Tryz.prog (bin .lss 3 (.tmp 6) (.tmp 8) t5_1 t8_3) fun t9_4 =>
 IfB t9_4 (
 RunA Tryz.prog (Instr.indexAt 22 a0 t5_1) fun t14_5 =>
 RunW Tryz.prog (Instr.loadAt 9 t14_5) w fun t15_6 =>
 RunW Tryz.prog (bin .eql 9 (.tmp 15) (.tmp 16) t15_6 a1) w fun t17_7 =>
 IfB t17_7 (
 R (.bool true) w) (
 RunA Tryz.prog (bin .add 3 (.tmp 10) (.const (.int .i64 1)) t5_1 (.int .i64 1)) fun t11_8 =>
 (a0 : Value) = a0 ∧ ((a1 : Value) = a1 ∧ (n_2 t11_8 w)))) (
 R (.bool false) w)) [(.int .i64 0)] w
theorem sh14_calls {a0 a1 : Value} {w : World} {R : Value → World → Prop} (h : sh14 a0 a1 w R) : CallF Tryz.prog 14 #[a0, a1] w R :=
  calls_of_denF (mk := false) (args := [a0, a1]) (an := (.seq (.ops [0, 1]) (.seq (.seq (.ops [0, 1, 5]) (.blk (.loop [0, 1] [5] (.seq (.seq (.ops [0, 1, 5, 9]) (.cond .leaf .leaf)) (.seq (.blk (.seq (.ops [0, 1, 5, 17]) (.cond (.seq (.ops [4]) .leaf) .leaf))) (.ops [0, 1, 5])))))) (.seq (.ops [4]) .leaf)))) (c := Tryz.f14.body.getD .skip) hentD Tryz.func14 rfl (Nat.le_of_ble_eq_true (by kernel_rfl))
    (Eq.mp (show sh14 a0 a1 w R = denF Tryz.prog entD false Tryz.f14 (.seq (.ops [0, 1]) (.seq (.seq (.ops [0, 1, 5]) (.blk (.loop [0, 1] [5] (.seq (.seq (.ops [0, 1, 5, 9]) (.cond .leaf .leaf)) (.seq (.blk (.seq (.ops [0, 1, 5, 17]) (.cond (.seq (.ops [4]) .leaf) .leaf))) (.ops [0, 1, 5])))))) (.seq (.ops [4]) .leaf))) (Tryz.f14.body.getD .skip) [a0, a1] w R by kernel_rfl) h)
def sh15 (a0 : Value) (w : World) (R : Value → World → Prop) : Prop :=
 CallF Tryz.prog 29 #[a0, (.string ⟨#[32, 9, 10, 13]⟩)] w fun t4_1 w =>
 R t4_1 w
theorem sh15_calls {a0 : Value} {w : World} {R : Value → World → Prop} (h : sh15 a0 w R) : CallF Tryz.prog 15 #[a0] w R :=
  calls_of_denF (mk := false) (args := [a0]) (an := (.seq (.ops [0]) (.seq (.ops [2]) .leaf))) (c := Tryz.f15.body.getD .skip) hentD Tryz.func15 rfl (Nat.le_of_ble_eq_true (by kernel_rfl))
    (Eq.mp (show sh15 a0 w R = denF Tryz.prog entD false Tryz.f15 (.seq (.ops [0]) (.seq (.ops [2]) .leaf)) (Tryz.f15.body.getD .skip) [a0] w R by kernel_rfl) h)
def sh16 (a0 a1 : Value) (w : World) (R : Value → World → Prop) : Prop :=
 RunV Tryz.prog (Instr.box 27 a0) w fun t2_1 w =>
 RunV Tryz.prog (Instr.box 27 a1) w fun t3_2 w =>
 RunA Tryz.prog (Instr.fieldAt 27 t2_1 0) fun t5_3 =>
 RunW Tryz.prog (Instr.loadAt 9 t5_3) w fun t6_4 =>
 RunA Tryz.prog (Instr.fieldAt 27 t3_2 0) fun t7_5 =>
 RunW Tryz.prog (Instr.loadAt 9 t7_5) w fun t8_6 =>
 RunW Tryz.prog (bin .eql 9 (.tmp 6) (.tmp 8) t6_4 t8_6) w fun t9_7 =>
 IfB t9_7 (
 RunA Tryz.prog (Instr.fieldAt 27 t2_1 1) fun t11_8 =>
 RunW Tryz.prog (Instr.loadAt 25 t11_8) w fun t12_9 =>
 RunA Tryz.prog (Instr.fieldAt 27 t3_2 1) fun t13_10 =>
 RunW Tryz.prog (Instr.loadAt 25 t13_10) w fun t14_11 =>
 CallF Tryz.prog 30 #[t12_9, t14_11] w fun t15_12 w =>
 R t15_12 w) (
 R (.bool false) w)
theorem sh16_calls {a0 a1 : Value} {w : World} {R : Value → World → Prop} (h : sh16 a0 a1 w R) : CallF Tryz.prog 16 #[a0, a1] w R :=
  calls_of_denF (mk := false) (args := [a0, a1]) (an := (.seq (.ops [2, 3]) (.seq (.ops [4]) .leaf))) (c := Tryz.f16.body.getD .skip) hentD Tryz.func16 rfl (Nat.le_of_ble_eq_true (by kernel_rfl))
    (Eq.mp (show sh16 a0 a1 w R = denF Tryz.prog entD false Tryz.f16 (.seq (.ops [2, 3]) (.seq (.ops [4]) .leaf)) (Tryz.f16.body.getD .skip) [a0, a1] w R by kernel_rfl) h)
def sh17 (a0 a1 : Value) (w : World) (R : Value → World → Prop) : Prop :=
 RunV Tryz.prog (Instr.box 41 a0) w fun t2_1 w =>
 RunV Tryz.prog (Instr.box 41 a1) w fun t3_2 w =>
 RunA Tryz.prog (Instr.fieldAt 41 t2_1 0) fun t5_3 =>
 RunW Tryz.prog (Instr.loadAt 9 t5_3) w fun t6_4 =>
 RunA Tryz.prog (Instr.fieldAt 41 t3_2 0) fun t7_5 =>
 RunW Tryz.prog (Instr.loadAt 9 t7_5) w fun t8_6 =>
 RunW Tryz.prog (bin .eql 9 (.tmp 6) (.tmp 8) t6_4 t8_6) w fun t9_7 =>
 IfB t9_7 (
 RunA Tryz.prog (Instr.fieldAt 41 t2_1 1) fun t11_8 =>
 RunW Tryz.prog (Instr.loadAt 25 t11_8) w fun t12_9 =>
 RunA Tryz.prog (Instr.fieldAt 41 t3_2 1) fun t13_10 =>
 RunW Tryz.prog (Instr.loadAt 25 t13_10) w fun t14_11 =>
 CallF Tryz.prog 19 #[t12_9, t14_11] w fun t15_12 w =>
 R t15_12 w) (
 R (.bool false) w)
theorem sh17_calls {a0 a1 : Value} {w : World} {R : Value → World → Prop} (h : sh17 a0 a1 w R) : CallF Tryz.prog 17 #[a0, a1] w R :=
  calls_of_denF (mk := false) (args := [a0, a1]) (an := (.seq (.ops [2, 3]) (.seq (.ops [4]) .leaf))) (c := Tryz.f17.body.getD .skip) hentD Tryz.func17 rfl (Nat.le_of_ble_eq_true (by kernel_rfl))
    (Eq.mp (show sh17 a0 a1 w R = denF Tryz.prog entD false Tryz.f17 (.seq (.ops [2, 3]) (.seq (.ops [4]) .leaf)) (Tryz.f17.body.getD .skip) [a0, a1] w R by kernel_rfl) h)
def sh18 (a0 : Value) (w : World) (R : Value → World → Prop) : Prop :=
 RunV Tryz.prog (Instr.box 27 a0) w fun t1_1 w =>
 RunV Tryz.prog (Instr.alloc 41 true (.tuple #[])) w fun t2_2 w =>
 RunA Tryz.prog (Instr.fieldAt 27 t1_1 0) fun t3_3 =>
 RunW Tryz.prog (Instr.loadAt 9 t3_3) w fun t4_4 =>
 RunA Tryz.prog (Instr.fieldAt 27 t1_1 1) fun t5_5 =>
 RunW Tryz.prog (Instr.loadAt 25 t5_5) w fun t6_6 =>
 RunV Tryz.prog (Instr.build 41 #[(0, t4_4), (1, t6_6)]) w fun t7_7 w =>
 RunU Tryz.prog (Instr.storeAt 41 t2_2 t7_7) w fun w =>
 RunW Tryz.prog (Instr.loadAt 41 t2_2) w fun t2_8 =>
 R t2_8 w
theorem sh18_calls {a0 : Value} {w : World} {R : Value → World → Prop} (h : sh18 a0 w R) : CallF Tryz.prog 18 #[a0] w R :=
  calls_of_denF (mk := false) (args := [a0]) (an := (.seq (.ops [1, 2]) (.seq (.ops [2]) .leaf))) (c := Tryz.f18.body.getD .skip) hentD Tryz.func18 rfl (Nat.le_of_ble_eq_true (by kernel_rfl))
    (Eq.mp (show sh18 a0 w R = denF Tryz.prog entD false Tryz.f18 (.seq (.ops [1, 2]) (.seq (.ops [2]) .leaf)) (Tryz.f18.body.getD .skip) [a0] w R by kernel_rfl) h)
def sh19 (a0 a1 : Value) (w : World) (R : Value → World → Prop) : Prop :=
 RunW Tryz.prog (Builtin.len_ #[25] 3 #[a0]) w fun t7_1 =>
 RunW Tryz.prog (Builtin.len_ #[25] 3 #[a1]) w fun t9_2 =>
 RunW Tryz.prog (bin .neq 3 (.tmp 7) (.tmp 9) t7_1 t9_2) w fun t10_3 =>
 IfB t10_3 (
 R (.bool false) w) (
 lp 1 (fun n_5 t5_4 w =>
 RunW Tryz.prog (Builtin.len_ #[25] 3 #[a0]) w fun t13_6 =>
 RunA Tryz.prog (bin .lss 3 (.tmp 11) (.tmp 13) t5_4 t13_6) fun t14_7 =>
 IfB t14_7 (
 drw (fun S_8 w =>
 RunA Tryz.prog (Instr.indexAt 25 a0 t5_4) fun t19_9 =>
 RunS Tryz.prog S_8 (Instr.loadAt 34 t19_9) fun t20_10 =>
 RunA Tryz.prog (Instr.indexAt 25 a1 t5_4) fun t23_11 =>
 RunS Tryz.prog S_8 (Instr.loadAt 34 t23_11) fun t24_12 =>
 CallF Tryz.prog 13 #[t20_10, t24_12] w fun t25_13 w =>
 RunA Tryz.prog (Op.unary .not t25_13) fun t26_14 =>
 IfB t26_14 (
 R (.bool false) w) (
 RunA Tryz.prog (bin .add 3 (.tmp 15) (.const (.int .i64 1)) t5_4 (.int .i64 1)) fun t16_15 =>
 (a0 : Value) = a0 ∧ ((a1 : Value) = a1 ∧ (n_5 t16_15 w)))) w) (
 R (.bool true) w)) [(.int .i64 0)] w)
theorem sh19_calls {a0 a1 : Value} {w : World} {R : Value → World → Prop} (h : sh19 a0 a1 w R) : CallF Tryz.prog 19 #[a0, a1] w R :=
  calls_of_denF (mk := false) (args := [a0, a1]) (an := (.seq (.ops [0, 1]) (.seq (.seq (.ops [0, 1, 10]) (.cond (.seq (.ops [4]) .leaf) .leaf)) (.seq (.seq (.ops [0, 1, 5]) (.blk (.loop [0, 1] [5] (.seq (.seq (.ops [0, 1, 5, 14]) (.cond .leaf .leaf)) (.seq (.blk (.seq (.draw (.q 0 (.q 1 (.q 2 (.q 3 (.q 4 (.q 5 (.q 6 (.q 7 (.one 8 (.q 9 .fin)))))))))) [0, 1, 5, 26]) (.cond (.seq (.ops [4]) .leaf) .leaf))) (.ops [0, 1, 5])))))) (.seq (.ops [4]) .leaf))))) (c := Tryz.f19.body.getD .skip) hentD Tryz.func19 rfl (Nat.le_of_ble_eq_true (by kernel_rfl))
    (Eq.mp (show sh19 a0 a1 w R = denF Tryz.prog entD false Tryz.f19 (.seq (.ops [0, 1]) (.seq (.seq (.ops [0, 1, 10]) (.cond (.seq (.ops [4]) .leaf) .leaf)) (.seq (.seq (.ops [0, 1, 5]) (.blk (.loop [0, 1] [5] (.seq (.seq (.ops [0, 1, 5, 14]) (.cond .leaf .leaf)) (.seq (.blk (.seq (.draw (.q 0 (.q 1 (.q 2 (.q 3 (.q 4 (.q 5 (.q 6 (.q 7 (.one 8 (.q 9 .fin)))))))))) [0, 1, 5, 26]) (.cond (.seq (.ops [4]) .leaf) .leaf))) (.ops [0, 1, 5])))))) (.seq (.ops [4]) .leaf)))) (Tryz.f19.body.getD .skip) [a0, a1] w R by kernel_rfl) h)
def sh27 (a0 : Value) (w : World) (R : Value → World → Prop) : Prop :=
 RunV Tryz.prog (Instr.alloc 27 true (.tuple #[])) w fun t2_1 w =>
 RunA Tryz.prog (Instr.indexAt 58 a0 (.int .i64 0)) fun t12_2 =>
 RunW Tryz.prog (Instr.loadAt 88 t12_2) w fun t13_3 =>
 RunV Tryz.prog (Instr.alloc 88 true (.tuple #[])) w fun t4_4 w =>
 RunU Tryz.prog (Instr.storeAt 88 t4_4 t13_3) w fun w =>
 RunA Tryz.prog (Instr.fieldAt 88 t4_4 1) fun t15_5 =>
 RunW Tryz.prog (Instr.loadAt 9 t15_5) w fun t16_6 =>
 RunW Tryz.prog (bin .eql 9 (.tmp 16) (.const (.string ⟨#[]⟩)) t16_6 (.string ⟨#[]⟩)) w fun t17_7 =>
 IfB t17_7 (
 RunA Tryz.prog (Instr.fieldAt 88 t4_4 2) fun t19_8 =>
 RunW Tryz.prog (Instr.loadAt 9 t19_8) w fun t20_9 =>
 RunW Tryz.prog (bin .eql 9 (.tmp 20) (.const (.string ⟨#[114, 115, 115]⟩)) t20_9 (.string ⟨#[114, 115, 115]⟩)) w fun t21_10 =>
 IfB t21_10 (
 CallF Tryz.prog 46 #[a0, (.string ⟨#[]⟩), (.string ⟨#[99, 104, 97, 110, 110, 101, 108]⟩)] w fun t25_11 w =>
 RunA Tryz.prog (Instr.extract t25_11 0) fun t26_12 =>
 RunA Tryz.prog (Instr.extract t25_11 1) fun t27_13 =>
 CallF Tryz.prog 47 #[t26_12, (.string ⟨#[]⟩), (.string ⟨#[116, 105, 116, 108, 101]⟩)] w fun t29_14 w =>
 RunV Tryz.prog (Instr.build 27 #[(0, t29_14)]) w fun t30_15 w =>
 RunV Tryz.prog (Instr.alloc 27 true (.tuple #[])) w fun t7_16 w =>
 RunU Tryz.prog (Instr.storeAt 27 t7_16 t30_15) w fun w =>
 CallF Tryz.prog 48 #[t26_12, (.string ⟨#[]⟩), (.string ⟨#[105, 116, 101, 109]⟩)] w fun t32_17 w =>
 rngP Tryz.prog none 1 2 (fun l_18 K_19 t33_25 w =>
 K_19 t7_16 t33_25 w) (fun l_18 kn_20 ks_21 t7_26 t8_27 w =>
 CallF Tryz.prog 50 #[t8_27] w fun t35_28 w =>
 CallF Tryz.prog 49 #[t7_26, t35_28] w fun t36_29 w =>
 kn_20 w) t32_17 w (fun D_22 w =>
 RunW Tryz.prog (Instr.loadAt 27 t7_16) w fun t37_30 =>
 RunU Tryz.prog (Instr.storeAt 27 t2_1 t37_30) w fun w =>
 (w).heap[D_22]? = some (.deferred (some [])) ∧ (
 RunW Tryz.prog (Instr.loadAt 27 t2_1) (w.putObj D_22 (.deferred none)) fun t2_31 =>
 R (.tuple #[t2_31, t27_13]) (w.putObj D_22 (.deferred none)))) (fun D_22 c_23 w => jumpK (fun i_24 w =>
 bif Nat.beq i_24 1 then (
 RunW Tryz.prog (Instr.loadAt 27 t7_16) w fun t37_32 =>
 RunU Tryz.prog (Instr.storeAt 27 t2_1 t37_32) w fun w =>
 (w).heap[D_22]? = some (.deferred (some [])) ∧ (
 RunW Tryz.prog (Instr.loadAt 27 t2_1) (w.putObj D_22 (.deferred none)) fun t2_33 =>
 R (.tuple #[t2_33, t27_13]) (w.putObj D_22 (.deferred none)))) else (
 bif Nat.beq i_24 0 then (
 RunV Tryz.prog (Instr.build 27 #[]) w fun t58_34 w =>
 RunU Tryz.prog (Instr.storeAt 27 t2_1 t58_34) w fun w =>
 (w).heap[D_22]? = some (.deferred (some [])) ∧ (
 RunW Tryz.prog (Instr.loadAt 27 t2_1) (w.putObj D_22 (.deferred none)) fun t2_35 =>
 R (.tuple #[t2_35, (.bool false)]) (w.putObj D_22 (.deferred none)))) else (
 False))) (fun w =>
 (w).heap[D_22]? = some (.deferred (some [])) ∧ (
 RunW Tryz.prog (Instr.loadAt 27 t2_1) (w.putObj D_22 (.deferred none)) fun t2_36 =>
 False)) c_23 w)) (
 RunA Tryz.prog (Instr.fieldAt 88 t4_4 1) fun t40_37 =>
 RunW Tryz.prog (Instr.loadAt 9 t40_37) w fun t41_38 =>
 RunW Tryz.prog (bin .eql 9 (.tmp 41) (.const (.string ⟨#[104, 116, 116, 112, 58, 47, 47, 119, 119, 119, 46, 119, 51, 46, 111, 114, 103, 47, 50, 48, 48, 53, 47, 65, 116, 111, 109]⟩)) t41_38 (.string ⟨#[104, 116, 116, 112, 58, 47, 47, 119, 119, 119, 46, 119, 51, 46, 111, 114, 103, 47, 50, 48, 48, 53, 47, 65, 116, 111, 109]⟩)) w fun t42_39 =>
 IfB t42_39 (
 RunA Tryz.prog (Instr.fieldAt 88 t4_4 2) fun t44_40 =>
 RunW Tryz.prog (Instr.loadAt 9 t44_40) w fun t45_41 =>
 RunW Tryz.prog (bin .eql 9 (.tmp 45) (.const (.string ⟨#[102, 101, 101, 100]⟩)) t45_41 (.string ⟨#[102, 101, 101, 100]⟩)) w fun t46_42 =>
 IfB t46_42 (
 CallF Tryz.prog 47 #[a0, (.string ⟨#[104, 116, 116, 112, 58, 47, 47, 119, 119, 119, 46, 119, 51, 46, 111, 114, 103, 47, 50, 48, 48, 53, 47, 65, 116, 111, 109]⟩), (.string ⟨#[116, 105, 116, 108, 101]⟩)] w fun t49_43 w =>
 RunV Tryz.prog (Instr.build 27 #[(0, t49_43)]) w fun t50_44 w =>
 RunV Tryz.prog (Instr.alloc 27 true (.tuple #[])) w fun t9_45 w =>
 RunU Tryz.prog (Instr.storeAt 27 t9_45 t50_44) w fun w =>
 CallF Tryz.prog 48 #[a0, (.string ⟨#[104, 116, 116, 112, 58, 47, 47, 119, 119, 119, 46, 119, 51, 46, 111, 114, 103, 47, 50, 48, 48, 53, 47, 65, 116, 111, 109]⟩), (.string ⟨#[101, 110, 116, 114, 121]⟩)] w fun t52_46 w =>
 rngP Tryz.prog none 1 2 (fun l_47 K_48 t53_54 w =>
 K_48 t9_45 t53_54 w) (fun l_47 kn_49 ks_50 t9_55 t10_56 w =>
 CallF Tryz.prog 51 #[t10_56] w fun t55_57 w =>
 CallF Tryz.prog 49 #[t9_55, t55_57] w fun t56_58 w =>
 kn_49 w) t52_46 w (fun D_51 w =>
 RunW Tryz.prog (Instr.loadAt 27 t9_45) w fun t57_59 =>
 RunU Tryz.prog (Instr.storeAt 27 t2_1 t57_59) w fun w =>
 (w).heap[D_51]? = some (.deferred (some [])) ∧ (
 RunW Tryz.prog (Instr.loadAt 27 t2_1) (w.putObj D_51 (.deferred none)) fun t2_60 =>
 R (.tuple #[t2_60, (.bool true)]) (w.putObj D_51 (.deferred none)))) (fun D_51 c_52 w => jumpK (fun i_53 w =>
 bif Nat.beq i_53 3 then (
 RunW Tryz.prog (Instr.loadAt 27 t9_45) w fun t57_61 =>
 RunU Tryz.prog (Instr.storeAt 27 t2_1 t57_61) w fun w =>
 (w).heap[D_51]? = some (.deferred (some [])) ∧ (
 RunW Tryz.prog (Instr.loadAt 27 t2_1) (w.putObj D_51 (.deferred none)) fun t2_62 =>
 R (.tuple #[t2_62, (.bool true)]) (w.putObj D_51 (.deferred none)))) else (
 bif Nat.beq i_53 0 then (
 RunV Tryz.prog (Instr.build 27 #[]) w fun t58_63 w =>
 RunU Tryz.prog (Instr.storeAt 27 t2_1 t58_63) w fun w =>
 (w).heap[D_51]? = some (.deferred (some [])) ∧ (
 RunW Tryz.prog (Instr.loadAt 27 t2_1) (w.putObj D_51 (.deferred none)) fun t2_64 =>
 R (.tuple #[t2_64, (.bool false)]) (w.putObj D_51 (.deferred none)))) else (
 False))) (fun w =>
 (w).heap[D_51]? = some (.deferred (some [])) ∧ (
 RunW Tryz.prog (Instr.loadAt 27 t2_1) (w.putObj D_51 (.deferred none)) fun t2_65 =>
 False)) c_52 w)) (
 RunV Tryz.prog (Instr.build 27 #[]) w fun t58_66 w =>
 RunU Tryz.prog (Instr.storeAt 27 t2_1 t58_66) w fun w =>
 RunW Tryz.prog (Instr.loadAt 27 t2_1) w fun t2_67 =>
 R (.tuple #[t2_67, (.bool false)]) w)) (
 RunV Tryz.prog (Instr.build 27 #[]) w fun t58_68 w =>
 RunU Tryz.prog (Instr.storeAt 27 t2_1 t58_68) w fun w =>
 RunW Tryz.prog (Instr.loadAt 27 t2_1) w fun t2_69 =>
 R (.tuple #[t2_69, (.bool false)]) w))) (
 RunA Tryz.prog (Instr.fieldAt 88 t4_4 1) fun t40_70 =>
 RunW Tryz.prog (Instr.loadAt 9 t40_70) w fun t41_71 =>
 RunW Tryz.prog (bin .eql 9 (.tmp 41) (.const (.string ⟨#[104, 116, 116, 112, 58, 47, 47, 119, 119, 119, 46, 119, 51, 46, 111, 114, 103, 47, 50, 48, 48, 53, 47, 65, 116, 111, 109]⟩)) t41_71 (.string ⟨#[104, 116, 116, 112, 58, 47, 47, 119, 119, 119, 46, 119, 51, 46, 111, 114, 103, 47, 50, 48, 48, 53, 47, 65, 116, 111, 109]⟩)) w fun t42_72 =>
 IfB t42_72 (
 RunA Tryz.prog (Instr.fieldAt 88 t4_4 2) fun t44_73 =>
 RunW Tryz.prog (Instr.loadAt 9 t44_73) w fun t45_74 =>
 RunW Tryz.prog (bin .eql 9 (.tmp 45) (.const (.string ⟨#[102, 101, 101, 100]⟩)) t45_74 (.string ⟨#[102, 101, 101, 100]⟩)) w fun t46_75 =>
 IfB t46_75 (
 CallF Tryz.prog 47 #[a0, (.string ⟨#[104, 116, 116, 112, 58, 47, 47, 119, 119, 119, 46, 119, 51, 46, 111, 114, 103, 47, 50, 48, 48, 53, 47, 65, 116, 111, 109]⟩), (.string ⟨#[116, 105, 116, 108, 101]⟩)] w fun t49_76 w =>
 RunV Tryz.prog (Instr.build 27 #[(0, t49_76)]) w fun t50_77 w =>
 RunV Tryz.prog (Instr.alloc 27 true (.tuple #[])) w fun t9_78 w =>
 RunU Tryz.prog (Instr.storeAt 27 t9_78 t50_77) w fun w =>
 CallF Tryz.prog 48 #[a0, (.string ⟨#[104, 116, 116, 112, 58, 47, 47, 119, 119, 119, 46, 119, 51, 46, 111, 114, 103, 47, 50, 48, 48, 53, 47, 65, 116, 111, 109]⟩), (.string ⟨#[101, 110, 116, 114, 121]⟩)] w fun t52_79 w =>
 rngP Tryz.prog none 1 2 (fun l_80 K_81 t53_87 w =>
 K_81 t9_78 t53_87 w) (fun l_80 kn_82 ks_83 t9_88 t10_89 w =>
 CallF Tryz.prog 51 #[t10_89] w fun t55_90 w =>
 CallF Tryz.prog 49 #[t9_88, t55_90] w fun t56_91 w =>
 kn_82 w) t52_79 w (fun D_84 w =>
 RunW Tryz.prog (Instr.loadAt 27 t9_78) w fun t57_92 =>
 RunU Tryz.prog (Instr.storeAt 27 t2_1 t57_92) w fun w =>
 (w).heap[D_84]? = some (.deferred (some [])) ∧ (
 RunW Tryz.prog (Instr.loadAt 27 t2_1) (w.putObj D_84 (.deferred none)) fun t2_93 =>
 R (.tuple #[t2_93, (.bool true)]) (w.putObj D_84 (.deferred none)))) (fun D_84 c_85 w => jumpK (fun i_86 w =>
 bif Nat.beq i_86 3 then (
 RunW Tryz.prog (Instr.loadAt 27 t9_78) w fun t57_94 =>
 RunU Tryz.prog (Instr.storeAt 27 t2_1 t57_94) w fun w =>
 (w).heap[D_84]? = some (.deferred (some [])) ∧ (
 RunW Tryz.prog (Instr.loadAt 27 t2_1) (w.putObj D_84 (.deferred none)) fun t2_95 =>
 R (.tuple #[t2_95, (.bool true)]) (w.putObj D_84 (.deferred none)))) else (
 bif Nat.beq i_86 0 then (
 RunV Tryz.prog (Instr.build 27 #[]) w fun t58_96 w =>
 RunU Tryz.prog (Instr.storeAt 27 t2_1 t58_96) w fun w =>
 (w).heap[D_84]? = some (.deferred (some [])) ∧ (
 RunW Tryz.prog (Instr.loadAt 27 t2_1) (w.putObj D_84 (.deferred none)) fun t2_97 =>
 R (.tuple #[t2_97, (.bool false)]) (w.putObj D_84 (.deferred none)))) else (
 False))) (fun w =>
 (w).heap[D_84]? = some (.deferred (some [])) ∧ (
 RunW Tryz.prog (Instr.loadAt 27 t2_1) (w.putObj D_84 (.deferred none)) fun t2_98 =>
 False)) c_85 w)) (
 RunV Tryz.prog (Instr.build 27 #[]) w fun t58_99 w =>
 RunU Tryz.prog (Instr.storeAt 27 t2_1 t58_99) w fun w =>
 RunW Tryz.prog (Instr.loadAt 27 t2_1) w fun t2_100 =>
 R (.tuple #[t2_100, (.bool false)]) w)) (
 RunV Tryz.prog (Instr.build 27 #[]) w fun t58_101 w =>
 RunU Tryz.prog (Instr.storeAt 27 t2_1 t58_101) w fun w =>
 RunW Tryz.prog (Instr.loadAt 27 t2_1) w fun t2_102 =>
 R (.tuple #[t2_102, (.bool false)]) w))
theorem sh27_calls {a0 : Value} {w : World} {R : Value → World → Prop} (h : sh27 a0 w R) : CallF Tryz.prog 27 #[a0] w R :=
  calls_of_denF (mk := true) (args := [a0]) (an := (.seq (.ops [0, 2]) (.seq (.seq (.ops [0, 2, 4]) (.blk (.seq (.ops [0, 2, 4, 14]) (.cond (.seq (.ops [2, 5, 6]) (.seq (.ops [2, 5, 6, 7]) (.seq (.seq (.ops [2, 6, 7, 32]) (.blk (.rng [7, 8] (.ops [7, 8]) (.blk (.ops []))))) (.seq (.ops [2, 3]) .leaf)))) (.seq (.ops [0, 2, 39]) (.cond (.seq (.ops [0, 2, 9]) (.seq (.seq (.ops [2, 9, 52]) (.blk (.rng [9, 10] (.ops [9, 10]) (.blk (.ops []))))) (.seq (.ops [2, 3]) .leaf))) .leaf)))))) (.seq (.ops [2, 3]) .leaf)))) (c := Tryz.f27.body.getD .skip) hentD Tryz.func27 rfl (Nat.le_of_ble_eq_true (by kernel_rfl))
    (Eq.mp (show sh27 a0 w R = denF Tryz.prog entD true Tryz.f27 (.seq (.ops [0, 2]) (.seq (.seq (.ops [0, 2, 4]) (.blk (.seq (.ops [0, 2, 4, 14]) (.cond (.seq (.ops [2, 5, 6]) (.seq (.ops [2, 5, 6, 7]) (.seq (.seq (.ops [2, 6, 7, 32]) (.blk (.rng [7, 8] (.ops [7, 8]) (.blk (.ops []))))) (.seq (.ops [2, 3]) .leaf)))) (.seq (.ops [0, 2, 39]) (.cond (.seq (.ops [0, 2, 9]) (.seq (.seq (.ops [2, 9, 52]) (.blk (.rng [9, 10] (.ops [9, 10]) (.blk (.ops []))))) (.seq (.ops [2, 3]) .leaf))) .leaf)))))) (.seq (.ops [2, 3]) .leaf))) (Tryz.f27.body.getD .skip) [a0] w R by kernel_rfl) h)
def sh28 (a0 : Value) (w : World) (R : Value → World → Prop) : Prop :=
 RunV Tryz.prog (Instr.box 27 a0) w fun t1_1 w =>
 RunA Tryz.prog (Instr.fieldAt 27 t1_1 1) fun t3_2 =>
 RunW Tryz.prog (Instr.loadAt 25 t3_2) w fun t4_3 =>
 RunW Tryz.prog (Builtin.len_ #[25] 3 #[t4_3]) w fun t5_4 =>
 RunA Tryz.prog (bin .gtr 3 (.tmp 5) (.const (.int .i64 200)) t5_4 (.int .i64 200)) fun t6_5 =>
 IfB t6_5 (
 R (.int .i64 17) w) (
 RunA Tryz.prog (Instr.fieldAt 27 t1_1 0) fun t7_6 =>
 RunW Tryz.prog (Instr.loadAt 9 t7_6) w fun t8_7 =>
 RunW Tryz.prog (Builtin.len_ #[9] 3 #[t8_7]) w fun t9_8 =>
 RunA Tryz.prog (bin .gtr 3 (.tmp 9) (.const (.int .i64 500)) t9_8 (.int .i64 500)) fun t10_9 =>
 IfB t10_9 (
 R (.int .i64 3) w) (
 RunA Tryz.prog (Instr.fieldAt 27 t1_1 1) fun t12_10 =>
 RunW Tryz.prog (Instr.loadAt 25 t12_10) w fun t13_11 =>
 CallF Tryz.prog 52 #[t13_11, (.func (.func 53) #[] #[])] w fun t14_12 w =>
 IfB t14_12 (
 R (.int .i64 3) w) (
 R (.int .i64 0) w)))
theorem sh28_calls {a0 : Value} {w : World} {R : Value → World → Prop} (h : sh28 a0 w R) : CallF Tryz.prog 28 #[a0] w R :=
  calls_of_denF (mk := false) (args := [a0]) (an := (.seq (.ops [1]) (.seq (.seq (.ops [1, 6]) (.cond (.seq (.ops [2]) .leaf) .leaf)) (.seq (.seq (.ops [15]) (.cond (.seq (.ops [2]) .leaf) .leaf)) (.seq (.ops [2]) .leaf))))) (c := Tryz.f28.body.getD .skip) hentD Tryz.func28 rfl (Nat.le_of_ble_eq_true (by kernel_rfl))
    (Eq.mp (show sh28 a0 w R = denF Tryz.prog entD false Tryz.f28 (.seq (.ops [1]) (.seq (.seq (.ops [1, 6]) (.cond (.seq (.ops [2]) .leaf) .leaf)) (.seq (.seq (.ops [15]) (.cond (.seq (.ops [2]) .leaf) .leaf)) (.seq (.ops [2]) .leaf)))) (Tryz.f28.body.getD .skip) [a0] w R by kernel_rfl) h)
def sh30 (a0 a1 : Value) (w : World) (R : Value → World → Prop) : Prop :=
 RunW Tryz.prog (Builtin.len_ #[25] 3 #[a0]) w fun t7_1 =>
 RunW Tryz.prog (Builtin.len_ #[25] 3 #[a1]) w fun t9_2 =>
 RunW Tryz.prog (bin .neq 3 (.tmp 7) (.tmp 9) t7_1 t9_2) w fun t10_3 =>
 IfB t10_3 (
 R (.bool false) w) (
 RunW Tryz.prog (Builtin.len_ #[25] 3 #[a0]) w fun t12_4 =>
 lp 1 (fun n_6 t13_5 w =>
 RunA Tryz.prog (bin .lss 3 (.tmp 13) (.tmp 12) t13_5 t12_4) fun t14_7 =>
 IfB t14_7 (
 drw (fun S_8 w =>
 RunA Tryz.prog (Instr.indexAt 25 a0 t13_5) fun t18_9 =>
 RunS Tryz.prog S_8 (Instr.loadAt 34 t18_9) fun t19_10 =>
 RunA Tryz.prog (Instr.indexAt 25 a1 t13_5) fun t22_11 =>
 RunS Tryz.prog S_8 (Instr.loadAt 34 t22_11) fun t23_12 =>
 RunS Tryz.prog S_8 (bin .neq 34 (.tmp 19) (.tmp 23) t19_10 t23_12) fun t24_13 =>
 IfB t24_13 (
 R (.bool false) w) (
 RunA Tryz.prog (bin .add 3 (.tmp 13) (.const (.int .i64 1)) t13_5 (.int .i64 1)) fun t25_14 =>
 (a0 : Value) = a0 ∧ ((a1 : Value) = a1 ∧ ((t12_4 : Value) = t12_4 ∧ (n_6 t25_14 w))))) w) (
 R (.bool true) w)) [(.int .i64 0)] w)
theorem sh30_calls {a0 a1 : Value} {w : World} {R : Value → World → Prop} (h : sh30 a0 a1 w R) : CallF Tryz.prog 30 #[a0, a1] w R :=
  calls_of_denF (mk := false) (args := [a0, a1]) (an := (.seq (.ops [0, 1]) (.seq (.seq (.ops [0, 1, 10]) (.cond (.seq (.ops [4]) .leaf) .leaf)) (.seq (.seq (.ops [0, 1, 12, 13]) (.blk (.loop [0, 1, 12] [13] (.seq (.ops [0, 1, 12, 13, 14]) (.seq (.cond .leaf .leaf) (.seq (.blk (.seq (.ops [0, 1, 5, 12, 13]) (.seq (.draw (.q 0 (.q 1 (.q 2 (.q 3 (.q 4 (.q 5 (.q 6 (.q 7 (.q 8 .fin))))))))) [0, 1, 12, 13, 24]) (.cond (.seq (.ops [4]) .leaf) .leaf)))) (.ops [0, 1, 12, 13]))))))) (.seq (.ops [4]) .leaf))))) (c := Tryz.f30.body.getD .skip) hentD Tryz.func30 rfl (Nat.le_of_ble_eq_true (by kernel_rfl))
    (Eq.mp (show sh30 a0 a1 w R = denF Tryz.prog entD false Tryz.f30 (.seq (.ops [0, 1]) (.seq (.seq (.ops [0, 1, 10]) (.cond (.seq (.ops [4]) .leaf) .leaf)) (.seq (.seq (.ops [0, 1, 12, 13]) (.blk (.loop [0, 1, 12] [13] (.seq (.ops [0, 1, 12, 13, 14]) (.seq (.cond .leaf .leaf) (.seq (.blk (.seq (.ops [0, 1, 5, 12, 13]) (.seq (.draw (.q 0 (.q 1 (.q 2 (.q 3 (.q 4 (.q 5 (.q 6 (.q 7 (.q 8 .fin))))))))) [0, 1, 12, 13, 24]) (.cond (.seq (.ops [4]) .leaf) .leaf)))) (.ops [0, 1, 12, 13]))))))) (.seq (.ops [4]) .leaf)))) (Tryz.f30.body.getD .skip) [a0, a1] w R by kernel_rfl) h)
def sh46 (a0 a1 a2 : Value) (w : World) (R : Value → World → Prop) : Prop :=
 RunV Tryz.prog (Instr.alloc 58 true (.tuple #[])) w fun t6_1 w =>
 RunV Tryz.prog (Instr.alloc 4 true (.tuple #[])) w fun t7_2 w =>
 CallF Tryz.prog 48 #[a0, a1, a2] w fun t12_3 w =>
 rngP Tryz.prog none 1 3 (fun l_4 K_5 t13_11 w =>
 K_5 t6_1 t7_2 t13_11 w) (fun l_4 kn_6 ks_7 t6_12 t7_13 t8_14 w =>
 RunU Tryz.prog (Instr.storeAt 58 t6_12 t8_14) w fun w =>
 RunU Tryz.prog (Instr.storeAt 4 t7_13 (.bool true)) w fun w =>
 ks_7 .ret w) t12_3 w (fun D_8 w =>
 RunU Tryz.prog (Instr.storeAt 58 t6_1 (.slice none 0 0)) w fun w =>
 RunU Tryz.prog (Instr.storeAt 4 t7_2 (.bool false)) w fun w =>
 (w).heap[D_8]? = some (.deferred (some [])) ∧ (
 RunW Tryz.prog (Instr.loadAt 58 t6_1) (w.putObj D_8 (.deferred none)) fun t6_15 =>
 RunW Tryz.prog (Instr.loadAt 4 t7_2) (w.putObj D_8 (.deferred none)) fun t7_16 =>
 R (.tuple #[t6_15, t7_16]) (w.putObj D_8 (.deferred none)))) (fun D_8 c_9 w => jumpK (fun i_10 w =>
 bif Nat.beq i_10 0 then (
 RunU Tryz.prog (Instr.storeAt 58 t6_1 (.slice none 0 0)) w fun w =>
 RunU Tryz.prog (Instr.storeAt 4 t7_2 (.bool false)) w fun w =>
 (w).heap[D_8]? = some (.deferred (some [])) ∧ (
 RunW Tryz.prog (Instr.loadAt 58 t6_1) (w.putObj D_8 (.deferred none)) fun t6_17 =>
 RunW Tryz.prog (Instr.loadAt 4 t7_2) (w.putObj D_8 (.deferred none)) fun t7_18 =>
 R (.tuple #[t6_17, t7_18]) (w.putObj D_8 (.deferred none)))) else (
 False)) (fun w =>
 (w).heap[D_8]? = some (.deferred (some [])) ∧ (
 RunW Tryz.prog (Instr.loadAt 58 t6_1) (w.putObj D_8 (.deferred none)) fun t6_19 =>
 RunW Tryz.prog (Instr.loadAt 4 t7_2) (w.putObj D_8 (.deferred none)) fun t7_20 =>
 R (.tuple #[t6_19, t7_20]) (w.putObj D_8 (.deferred none)))) c_9 w)
theorem sh46_calls {a0 a1 a2 : Value} {w : World} {R : Value → World → Prop} (h : sh46 a0 a1 a2 w R) : CallF Tryz.prog 46 #[a0, a1, a2] w R :=
  calls_of_denF (mk := true) (args := [a0, a1, a2]) (an := (.seq (.ops [0, 1, 2, 6, 7]) (.seq (.seq (.ops [6, 7, 12]) (.blk (.rng [6, 7, 8] (.ops [6, 7, 8]) (.blk (.seq (.ops []) .leaf))))) (.seq (.ops [6, 7]) .leaf)))) (c := Tryz.f46.body.getD .skip) hentD Tryz.func46 rfl (Nat.le_of_ble_eq_true (by kernel_rfl))
    (Eq.mp (show sh46 a0 a1 a2 w R = denF Tryz.prog entD true Tryz.f46 (.seq (.ops [0, 1, 2, 6, 7]) (.seq (.seq (.ops [6, 7, 12]) (.blk (.rng [6, 7, 8] (.ops [6, 7, 8]) (.blk (.seq (.ops []) .leaf))))) (.seq (.ops [6, 7]) .leaf))) (Tryz.f46.body.getD .skip) [a0, a1, a2] w R by kernel_rfl) h)
def sh47 (a0 a1 a2 : Value) (w : World) (R : Value → World → Prop) : Prop :=
 CallF Tryz.prog 46 #[a0, a1, a2] w fun t13_1 w =>
 RunA Tryz.prog (Instr.extract t13_1 0) fun t14_2 =>
 RunA Tryz.prog (Instr.extract t13_1 1) fun t15_3 =>
 CallF Tryz.prog 84 #[t14_2] w fun t17_4 w =>
 R t17_4 w
theorem sh47_calls {a0 a1 a2 : Value} {w : World} {R : Value → World → Prop} (h : sh47 a0 a1 a2 w R) : CallF Tryz.prog 47 #[a0, a1, a2] w R :=
  calls_of_denF (mk := false) (args := [a0, a1, a2]) (an := (.seq (.ops [0, 1, 2]) (.seq (.ops [7]) (.seq (.ops [6]) .leaf)))) (c := Tryz.f47.body.getD .skip) hentD Tryz.func47 rfl (Nat.le_of_ble_eq_true (by kernel_rfl))
    (Eq.mp (show sh47 a0 a1 a2 w R = denF Tryz.prog entD false Tryz.f47 (.seq (.ops [0, 1, 2]) (.seq (.ops [7]) (.seq (.ops [6]) .leaf))) (Tryz.f47.body.getD .skip) [a0, a1, a2] w R by kernel_rfl) h)
def sh48 (a0 a1 a2 : Value) (w : World) (R : Value → World → Prop) : Prop :=
 RunV Tryz.prog (Instr.box 58 a0) w fun t3_1 w =>
 RunV Tryz.prog (Instr.box 9 a1) w fun t4_2 w =>
 RunV Tryz.prog (Instr.box 9 a2) w fun t5_3 w =>
 RunV Tryz.prog (Instr.makeFunc (Go.Fn.func 85) #[] #[t3_1, t4_2, t5_3]) w fun t7_4 w =>
 R t7_4 w
theorem sh48_calls {a0 a1 a2 : Value} {w : World} {R : Value → World → Prop} (h : sh48 a0 a1 a2 w R) : CallF Tryz.prog 48 #[a0, a1, a2] w R :=
  calls_of_denF (mk := false) (args := [a0, a1, a2]) (an := (.seq (.ops [3, 4, 5]) (.seq (.ops [6]) .leaf))) (c := Tryz.f48.body.getD .skip) hentD Tryz.func48 rfl (Nat.le_of_ble_eq_true (by kernel_rfl))
    (Eq.mp (show sh48 a0 a1 a2 w R = denF Tryz.prog entD false Tryz.f48 (.seq (.ops [3, 4, 5]) (.seq (.ops [6]) .leaf)) (Tryz.f48.body.getD .skip) [a0, a1, a2] w R by kernel_rfl) h)
def sh49 (a0 a1 : Value) (w : World) (R : Value → World → Prop) : Prop :=
 RunV Tryz.prog (Instr.box 34 a1) w fun t3_1 w =>
 jn 2 (fun t0_2 t3_3 w =>
 RunA Tryz.prog (Instr.fieldAt 34 t3_3 1) fun t10_5 =>
 RunW Tryz.prog (Instr.loadAt 9 t10_5) w fun t11_6 =>
 RunW Tryz.prog (bin .eql 9 (.tmp 11) (.const (.string ⟨#[]⟩)) t11_6 (.string ⟨#[]⟩)) w fun t12_7 =>
 IfB t12_7 (
 R (.tuple #[]) w) (
 RunA Tryz.prog (nilV t0_2) fun t15_8 =>
 RunA Tryz.prog (Instr.fieldAt 27 t15_8 1) fun t16_9 =>
 RunW Tryz.prog (Instr.loadAt 25 t16_9) w fun t17_10 =>
 RunV Tryz.prog (Instr.makeFunc (Go.Fn.func 87) #[] #[t3_3]) w fun t18_11 w =>
 CallF Tryz.prog 52 #[t17_10, t18_11] w fun t19_12 w =>
 IfB t19_12 (
 R (.tuple #[]) w) (
 RunA Tryz.prog (nilV t0_2) fun t22_13 =>
 RunA Tryz.prog (Instr.fieldAt 27 t22_13 1) fun t23_14 =>
 RunW Tryz.prog (Instr.loadAt 25 t23_14) w fun t24_15 =>
 RunW Tryz.prog (Builtin.len_ #[25] 3 #[t24_15]) w fun t25_16 =>
 RunA Tryz.prog (Instr.fieldAt 34 t3_3 0) fun t26_17 =>
 RunU Tryz.prog (Instr.storeAt 3 t26_17 t25_16) w fun w =>
 drw (fun S_18 w =>
 RunA Tryz.prog (nilV t0_2) fun t29_19 =>
 RunA Tryz.prog (Instr.fieldAt 27 t29_19 1) fun t30_20 =>
 RunS Tryz.prog S_18 (Instr.loadAt 25 t30_20) fun t31_21 =>
 RunS Tryz.prog S_18 (Instr.loadAt 34 t3_3) fun t32_22 =>
 RunV Tryz.prog (Instr.buildSlice 25 1 #[(0, t32_22)]) w fun t33_23 w =>
 S_18 w ∧ (
 RunV Tryz.prog (Builtin.append_ #[25, 25] 25 #[t31_21, t33_23]) w fun t34_24 w =>
 RunA Tryz.prog (nilV t0_2) fun t35_25 =>
 RunA Tryz.prog (Instr.fieldAt 27 t35_25 1) fun t36_26 =>
 RunU Tryz.prog (Instr.storeAt 25 t36_26 t34_24) w fun w =>
 R (.tuple #[]) w)) w))) fun j_4 =>
 RunA Tryz.prog (Instr.fieldAt 34 t3_1 1) fun t4_27 =>
 RunW Tryz.prog (Instr.loadAt 9 t4_27) w fun t5_28 =>
 RunW Tryz.prog (bin .eql 9 (.tmp 5) (.const (.string ⟨#[]⟩)) t5_28 (.string ⟨#[]⟩)) w fun t6_29 =>
 IfB t6_29 (
 RunA Tryz.prog (Instr.fieldAt 34 t3_1 3) fun t7_30 =>
 RunW Tryz.prog (Instr.loadAt 9 t7_30) w fun t8_31 =>
 RunA Tryz.prog (Instr.fieldAt 34 t3_1 1) fun t9_32 =>
 RunU Tryz.prog (Instr.storeAt 9 t9_32 t8_31) w fun w =>
 j_4 a0 t3_1 w) (
 j_4 a0 t3_1 w)
theorem sh49_calls {a0 a1 : Value} {w : World} {R : Value → World → Prop} (h : sh49 a0 a1 w R) : CallF Tryz.prog 49 #[a0, a1] w R :=
  calls_of_denF (mk := false) (args := [a0, a1]) (an := (.seq (.ops [0, 3]) (.seq (.join [0, 3] (.seq (.ops [0, 3, 6]) (.cond (.ops [0, 3]) .leaf))) (.seq (.seq (.ops [0, 3, 20]) (.cond .leaf .leaf)) (.seq (.ops [0, 3]) (.draw (.q 0 (.q 1 (.q 2 (.q 3 (.q 4 (.q 5 (.one 6 (.one 7 (.q 8 (.q 9 (.one 10 .fin))))))))))) [])))))) (c := Tryz.f49.body.getD .skip) hentD Tryz.func49 rfl (Nat.le_of_ble_eq_true (by kernel_rfl))
    (Eq.mp (show sh49 a0 a1 w R = denF Tryz.prog entD false Tryz.f49 (.seq (.ops [0, 3]) (.seq (.join [0, 3] (.seq (.ops [0, 3, 6]) (.cond (.ops [0, 3]) .leaf))) (.seq (.seq (.ops [0, 3, 20]) (.cond .leaf .leaf)) (.seq (.ops [0, 3]) (.draw (.q 0 (.q 1 (.q 2 (.q 3 (.q 4 (.q 5 (.one 6 (.one 7 (.q 8 (.q 9 (.one 10 .fin))))))))))) []))))) (Tryz.f49.body.getD .skip) [a0, a1] w R by kernel_rfl) h)
def sh50 (a0 : Value) (w : World) (R : Value → World → Prop) : Prop :=
 RunV Tryz.prog (Instr.alloc 34 true (.tuple #[])) w fun t2_1 w =>
 CallF Tryz.prog 47 #[a0, (.string ⟨#[]⟩), (.string ⟨#[103, 117, 105, 100]⟩)] w fun t4_2 w =>
 CallF Tryz.prog 47 #[a0, (.string ⟨#[]⟩), (.string ⟨#[116, 105, 116, 108, 101]⟩)] w fun t6_3 w =>
 CallF Tryz.prog 47 #[a0, (.string ⟨#[]⟩), (.string ⟨#[108, 105, 110, 107]⟩)] w fun t8_4 w =>
 CallF Tryz.prog 47 #[a0, (.string ⟨#[]⟩), (.string ⟨#[112, 117, 98, 68, 97, 116, 101]⟩)] w fun t10_5 w =>
 CallF Tryz.prog 88 #[t10_5] w fun t11_6 w =>
 RunV Tryz.prog (Instr.build 34 #[(1, t4_2), (2, t6_3), (3, t8_4), (4, t11_6)]) w fun t12_7 w =>
 RunU Tryz.prog (Instr.storeAt 34 t2_1 t12_7) w fun w =>
 RunW Tryz.prog (Instr.loadAt 34 t2_1) w fun t2_8 =>
 R t2_8 w
theorem sh50_calls {a0 : Value} {w : World} {R : Value → World → Prop} (h : sh50 a0 w R) : CallF Tryz.prog 50 #[a0] w R :=
  calls_of_denF (mk := false) (args := [a0]) (an := (.seq (.ops [0, 2]) (.seq (.ops [2]) .leaf))) (c := Tryz.f50.body.getD .skip) hentD Tryz.func50 rfl (Nat.le_of_ble_eq_true (by kernel_rfl))
    (Eq.mp (show sh50 a0 w R = denF Tryz.prog entD false Tryz.f50 (.seq (.ops [0, 2]) (.seq (.ops [2]) .leaf)) (Tryz.f50.body.getD .skip) [a0] w R by kernel_rfl) h)
def sh51 (a0 : Value) (w : World) (R : Value → World → Prop) : Prop :=
 RunV Tryz.prog (Instr.alloc 34 true (.tuple #[])) w fun t2_1 w =>
 CallF Tryz.prog 46 #[a0, (.string ⟨#[104, 116, 116, 112, 58, 47, 47, 119, 119, 119, 46, 119, 51, 46, 111, 114, 103, 47, 50, 48, 48, 53, 47, 65, 116, 111, 109]⟩), (.string ⟨#[117, 112, 100, 97, 116, 101, 100]⟩)] w fun t7_2 w =>
 RunA Tryz.prog (Instr.extract t7_2 0) fun t8_3 =>
 RunA Tryz.prog (Instr.extract t7_2 1) fun t9_4 =>
 jn 3 (fun t0_5 t2_6 t3_7 w =>
 CallF Tryz.prog 47 #[t0_5, (.string ⟨#[104, 116, 116, 112, 58, 47, 47, 119, 119, 119, 46, 119, 51, 46, 111, 114, 103, 47, 50, 48, 48, 53, 47, 65, 116, 111, 109]⟩), (.string ⟨#[105, 100]⟩)] w fun t18_9 w =>
 CallF Tryz.prog 47 #[t0_5, (.string ⟨#[104, 116, 116, 112, 58, 47, 47, 119, 119, 119, 46, 119, 51, 46, 111, 114, 103, 47, 50, 48, 48, 53, 47, 65, 116, 111, 109]⟩), (.string ⟨#[116, 105, 116, 108, 101]⟩)] w fun t20_10 w =>
 CallF Tryz.prog 89 #[t0_5] w fun t22_11 w =>
 CallF Tryz.prog 84 #[t3_7] w fun t24_12 w =>
 CallF Tryz.prog 88 #[t24_12] w fun t25_13 w =>
 RunV Tryz.prog (Instr.build 34 #[(1, t18_9), (2, t20_10), (3, t22_11), (4, t25_13)]) w fun t26_14 w =>
 RunU Tryz.prog (Instr.storeAt 34 t2_6 t26_14) w fun w =>
 RunW Tryz.prog (Instr.loadAt 34 t2_6) w fun t2_15 =>
 R t2_15 w) fun j_8 =>
 RunA Tryz.prog (Op.unary .not t9_4) fun t11_16 =>
 IfB t11_16 (
 CallF Tryz.prog 46 #[a0, (.string ⟨#[104, 116, 116, 112, 58, 47, 47, 119, 119, 119, 46, 119, 51, 46, 111, 114, 103, 47, 50, 48, 48, 53, 47, 65, 116, 111, 109]⟩), (.string ⟨#[112, 117, 98, 108, 105, 115, 104, 101, 100]⟩)] w fun t14_17 w =>
 RunA Tryz.prog (Instr.extract t14_17 0) fun t15_18 =>
 RunA Tryz.prog (Instr.extract t14_17 1) fun t16_19 =>
 j_8 a0 t2_1 t15_18 w) (
 j_8 a0 t2_1 t8_3 w)
theorem sh51_calls {a0 : Value} {w : World} {R : Value → World → Prop} (h : sh51 a0 w R) : CallF Tryz.prog 51 #[a0] w R :=
  calls_of_denF (mk := false) (args := [a0]) (an := (.seq (.ops [0, 2]) (.seq (.ops [0, 2, 3, 4]) (.seq (.join [0, 2, 3] (.seq (.ops [0, 2, 3, 11]) (.cond (.ops [0, 2, 3]) .leaf))) (.seq (.ops [2]) .leaf))))) (c := Tryz.f51.body.getD .skip) hentD Tryz.func51 rfl (Nat.le_of_ble_eq_true (by kernel_rfl))
    (Eq.mp (show sh51 a0 w R = denF Tryz.prog entD false Tryz.f51 (.seq (.ops [0, 2]) (.seq (.ops [0, 2, 3, 4]) (.seq (.join [0, 2, 3] (.seq (.ops [0, 2, 3, 11]) (.cond (.ops [0, 2, 3]) .leaf))) (.seq (.ops [2]) .leaf)))) (Tryz.f51.body.getD .skip) [a0] w R by kernel_rfl) h)
def sh52 (a0 a1 : Value) (w : World) (R : Value → World → Prop) : Prop :=
 CallF Tryz.prog 90 #[a0, a1] w fun t7_1 w =>
 RunA Tryz.prog (bin .geq 3 (.tmp 7) (.const (.int .i64 0)) t7_1 (.int .i64 0)) fun t8_2 =>
 R t8_2 w
theorem sh52_calls {a0 a1 : Value} {w : World} {R : Value → World → Prop} (h : sh52 a0 a1 w R) : CallF Tryz.prog 52 #[a0, a1] w R :=
  calls_of_denF (mk := false) (args := [a0, a1]) (an := (.seq (.ops [0, 1]) (.seq (.ops [4]) .leaf))) (c := Tryz.f52.body.getD .skip) hentD Tryz.func52 rfl (Nat.le_of_ble_eq_true (by kernel_rfl))
    (Eq.mp (show sh52 a0 a1 w R = denF Tryz.prog entD false Tryz.f52 (.seq (.ops [0, 1]) (.seq (.ops [4]) .leaf)) (Tryz.f52.body.getD .skip) [a0, a1] w R by kernel_rfl) h)
def sh53 (a0 : Value) (w : World) (R : Value → World → Prop) : Prop :=
 RunV Tryz.prog (Instr.box 34 a0) w fun t1_1 w =>
 RunA Tryz.prog (Instr.fieldAt 34 t1_1 1) fun t3_2 =>
 RunW Tryz.prog (Instr.loadAt 9 t3_2) w fun t4_3 =>
 RunW Tryz.prog (Builtin.len_ #[9] 3 #[t4_3]) w fun t5_4 =>
 RunA Tryz.prog (Instr.fieldAt 34 t1_1 2) fun t6_5 =>
 RunW Tryz.prog (Instr.loadAt 9 t6_5) w fun t7_6 =>
 RunW Tryz.prog (Builtin.len_ #[9] 3 #[t7_6]) w fun t8_7 =>
 RunA Tryz.prog (Instr.fieldAt 34 t1_1 3) fun t9_8 =>
 RunW Tryz.prog (Instr.loadAt 9 t9_8) w fun t10_9 =>
 RunW Tryz.prog (Builtin.len_ #[9] 3 #[t10_9]) w fun t11_10 =>
 RunW Tryz.prog (Builtin.max_ #[3, 3, 3] 3 #[t5_4, t8_7, t11_10]) w fun t12_11 =>
 RunA Tryz.prog (bin .gtr 3 (.tmp 12) (.const (.int .i64 500)) t12_11 (.int .i64 500)) fun t13_12 =>
 R t13_12 w
theorem sh53_calls {a0 : Value} {w : World} {R : Value → World → Prop} (h : sh53 a0 w R) : CallF Tryz.prog 53 #[a0] w R :=
  calls_of_denF (mk := false) (args := [a0]) (an := (.seq (.ops [1]) (.seq (.ops [2]) .leaf))) (c := Tryz.f53.body.getD .skip) hentD Tryz.func53 rfl (Nat.le_of_ble_eq_true (by kernel_rfl))
    (Eq.mp (show sh53 a0 w R = denF Tryz.prog entD false Tryz.f53 (.seq (.ops [1]) (.seq (.ops [2]) .leaf)) (Tryz.f53.body.getD .skip) [a0] w R by kernel_rfl) h)
def sh84 (a0 : Value) (w : World) (R : Value → World → Prop) : Prop :=
 CallF Tryz.prog 86 #[a0, (.int .i64 0)] w fun t7_1 w =>
 RunA Tryz.prog (Instr.extract t7_1 0) fun t8_2 =>
 RunA Tryz.prog (Instr.extract t7_1 1) fun t9_3 =>
 CallF Tryz.prog 15 #[t8_2] w fun t11_4 w =>
 R t11_4 w
theorem sh84_calls {a0 : Value} {w : World} {R : Value → World → Prop} (h : sh84 a0 w R) : CallF Tryz.prog 84 #[a0] w R :=
  calls_of_denF (mk := false) (args := [a0]) (an := (.seq (.ops [0]) (.seq (.ops [3]) (.seq (.ops [2]) .leaf)))) (c := Tryz.f84.body.getD .skip) hentD Tryz.func84 rfl (Nat.le_of_ble_eq_true (by kernel_rfl))
    (Eq.mp (show sh84 a0 w R = denF Tryz.prog entD false Tryz.f84 (.seq (.ops [0]) (.seq (.ops [3]) (.seq (.ops [2]) .leaf))) (Tryz.f84.body.getD .skip) [a0] w R by kernel_rfl) h)
def sh85 (a0 a1 a2 a3 : Value) (w : World) (R : Value → World → Prop) : Prop :=
 lp 1 (fun n_2 t5_1 w =>
 RunW Tryz.prog (Instr.loadAt 58 a1) w fun t9_3 =>
 RunW Tryz.prog (Builtin.len_ #[58] 3 #[t9_3]) w fun t10_4 =>
 RunA Tryz.prog (bin .lss 3 (.tmp 8) (.tmp 10) t5_1 t10_4) fun t11_5 =>
 IfB t11_5 (
 jn 5 (fun t0_6 t1_7 t2_8 t3_9 t5_10 w =>
 (t0_6 : Value) = a0 ∧ ((t1_7 : Value) = a1 ∧ ((t2_8 : Value) = a2 ∧ ((t3_9 : Value) = a3 ∧ (n_2 t5_10 w))))) fun j_11 =>
 RunW Tryz.prog (Instr.loadAt 58 a1) w fun t12_12 =>
 RunA Tryz.prog (Instr.indexAt 58 t12_12 t5_1) fun t14_13 =>
 RunA Tryz.prog (Instr.fieldAt 88 t14_13 0) fun t15_14 =>
 RunW Tryz.prog (Instr.loadAt 3 t15_14) w fun t16_15 =>
 RunW Tryz.prog (bin .neq 3 (.tmp 16) (.const (.int .i64 1)) t16_15 (.int .i64 1)) w fun t17_16 =>
 IfB t17_16 (
 RunA Tryz.prog (bin .add 3 (.tmp 18) (.const (.int .i64 1)) t5_1 (.int .i64 1)) fun t19_17 =>
 j_11 a0 a1 a2 a3 t19_17 w) (
 RunW Tryz.prog (Instr.loadAt 58 a1) w fun t21_18 =>
 CallF Tryz.prog 86 #[t21_18, t5_1] w fun t23_19 w =>
 RunA Tryz.prog (Instr.extract t23_19 0) fun t24_20 =>
 RunA Tryz.prog (Instr.extract t23_19 1) fun t25_21 =>
 jn 5 (fun t0_22 t1_23 t2_24 t3_25 t7_26 w =>
 j_11 t0_22 t1_23 t2_24 t3_25 t7_26 w) fun j_27 =>
 drw (fun S_28 w =>
 RunS Tryz.prog S_28 (Instr.loadAt 58 a1) fun t26_29 =>
 RunA Tryz.prog (Instr.indexAt 58 t26_29 t5_1) fun t28_30 =>
 RunA Tryz.prog (Instr.fieldAt 88 t28_30 1) fun t29_31 =>
 RunS Tryz.prog S_28 (Instr.loadAt 9 t29_31) fun t30_32 =>
 RunS Tryz.prog S_28 (Instr.loadAt 9 a2) fun t31_33 =>
 RunS Tryz.prog S_28 (bin .eql 9 (.tmp 30) (.tmp 31) t30_32 t31_33) fun t32_34 =>
 IfB t32_34 (
 RunS Tryz.prog S_28 (Instr.loadAt 58 a1) fun t34_35 =>
 RunA Tryz.prog (Instr.indexAt 58 t34_35 t5_1) fun t36_36 =>
 RunA Tryz.prog (Instr.fieldAt 88 t36_36 2) fun t37_37 =>
 RunS Tryz.prog S_28 (Instr.loadAt 9 t37_37) fun t38_38 =>
 RunS Tryz.prog S_28 (Instr.loadAt 9 a3) fun t39_39 =>
 RunS Tryz.prog S_28 (bin .eql 9 (.tmp 38) (.tmp 39) t38_38 t39_39) fun t40_40 =>
 IfB t40_40 (
 RunS Tryz.prog S_28 (Instr.loadAt 58 a1) fun t44_41 =>
 RunA Tryz.prog (Instr.sliceAt 58 t44_41 (some t5_1) (some t25_21) none) fun t47_42 =>
 CallV Tryz.prog a0 #[t47_42] w fun t48_43 w =>
 S_28 w ∧ (
 RunA Tryz.prog (Op.unary .not t48_43) fun t49_44 =>
 IfB t49_44 (
 R (.tuple #[]) w) (
 j_27 a0 a1 a2 a3 t25_21 w))) (
 j_27 a0 a1 a2 a3 t25_21 w)) (
 j_27 a0 a1 a2 a3 t25_21 w)) w)) (
 R (.tuple #[]) w)) [(.int .i64 1)] w
theorem sh85_calls {a0 a1 a2 a3 : Value} {w : World} {R : Value → World → Prop} (h : sh85 a0 a1 a2 a3 w R) : CallF Tryz.prog 85 #[a0, a1, a2, a3] w R :=
  calls_of_denF (mk := false) (args := [a0, a1, a2, a3]) (an := (.seq (.ops [0, 1, 2, 3, 5]) (.blk (.loop [0, 1, 2, 3] [5] (.seq (.seq (.ops [0, 1, 2, 3, 5, 11]) (.cond .leaf .leaf)) (.join [0, 1, 2, 3, 5] (.blk (.seq (.seq (.ops [0, 1, 2, 3, 5, 17]) (.cond (.seq (.ops [0, 1, 2, 3, 5]) .leaf) .leaf)) (.seq (.ops [0, 1, 2, 3, 5, 7]) (.seq (.join [0, 1, 2, 3, 7] (.seq (.draw (.q 0 (.q 1 (.q 2 (.q 3 (.q 4 (.q 5 (.q 6 (.q 7 (.sp 8 (.q 8 (.q 9 (.q 10 (.q 11 (.q 12 (.q 13 (.q 14 (.q 15 (.q 16 (.sp 17 (.q 17 (.q 18 (.q 19 (.q 20 (.q 21 (.one 22 (.q 23 (.q 24 .fin)))))))) (.q 17 (.q 18 (.q 19 (.q 20 (.q 21 (.q 22 (.q 23 (.q 24 .fin)))))))))))))))))) (.q 8 (.q 9 (.q 10 (.q 11 (.q 12 (.q 13 (.q 14 (.q 15 (.q 16 (.q 17 (.q 18 (.q 19 (.q 20 (.q 21 (.q 22 (.q 23 (.q 24 .fin)))))))))))))))))))))))))) [0, 1, 2, 3, 7, 50]) (.cond .leaf .leaf))) (.ops [0, 1, 2, 3, 5]))))))))))) (c := Tryz.f85.body.getD .skip) hentD Tryz.func85 rfl (Nat.le_of_ble_eq_true (by kernel_rfl))
    (Eq.mp (show sh85 a0 a1 a2 a3 w R = denF Tryz.prog entD false Tryz.f85 (.seq (.ops [0, 1, 2, 3, 5]) (.blk (.loop [0, 1, 2, 3] [5] (.seq (.seq (.ops [0, 1, 2, 3, 5, 11]) (.cond .leaf .leaf)) (.join [0, 1, 2, 3, 5] (.blk (.seq (.seq (.ops [0, 1, 2, 3, 5, 17]) (.cond (.seq (.ops [0, 1, 2, 3, 5]) .leaf) .leaf)) (.seq (.ops [0, 1, 2, 3, 5, 7]) (.seq (.join [0, 1, 2, 3, 7] (.seq (.draw (.q 0 (.q 1 (.q 2 (.q 3 (.q 4 (.q 5 (.q 6 (.q 7 (.sp 8 (.q 8 (.q 9 (.q 10 (.q 11 (.q 12 (.q 13 (.q 14 (.q 15 (.q 16 (.sp 17 (.q 17 (.q 18 (.q 19 (.q 20 (.q 21 (.one 22 (.q 23 (.q 24 .fin)))))))) (.q 17 (.q 18 (.q 19 (.q 20 (.q 21 (.q 22 (.q 23 (.q 24 .fin)))))))))))))))))) (.q 8 (.q 9 (.q 10 (.q 11 (.q 12 (.q 13 (.q 14 (.q 15 (.q 16 (.q 17 (.q 18 (.q 19 (.q 20 (.q 21 (.q 22 (.q 23 (.q 24 .fin)))))))))))))))))))))))))) [0, 1, 2, 3, 7, 50]) (.cond .leaf .leaf))) (.ops [0, 1, 2, 3, 5])))))))))) (Tryz.f85.body.getD .skip) [a0, a1, a2, a3] w R by kernel_rfl) h)
def sh86 (a0 a1 : Value) (w : World) (R : Value → World → Prop) : Prop :=
 RunV Tryz.prog (Instr.box 3 a1) w fun t3_1 w =>
 RunV Tryz.prog (Instr.alloc 9 true (.tuple #[])) w fun t4_2 w =>
 RunV Tryz.prog (Instr.alloc 3 true (.tuple #[])) w fun t5_3 w =>
 RunW Tryz.prog (Instr.loadAt 3 t3_1) w fun t10_4 =>
 RunA Tryz.prog (bin .lss 3 (.tmp 10) (.const (.int .i64 0)) t10_4 (.int .i64 0)) fun t11_5 =>
 IfB t11_5 (
 drw (fun S_6 w =>
 RunS Tryz.prog S_6 (Instr.loadAt 3 t3_1) fun t26_7 =>
 RunU Tryz.prog (Instr.storeAt 9 t4_2 (.string ⟨#[]⟩)) w fun w =>
 S_6 w ∧ (
 RunU Tryz.prog (Instr.storeAt 3 t5_3 t26_7) w fun w =>
 RunW Tryz.prog (Instr.loadAt 9 t4_2) w fun t4_8 =>
 RunW Tryz.prog (Instr.loadAt 3 t5_3) w fun t5_9 =>
 R (.tuple #[t4_8, t5_9]) w)) w) (
 RunW Tryz.prog (Instr.loadAt 3 t3_1) w fun t13_10 =>
 RunW Tryz.prog (Builtin.len_ #[54] 3 #[a0]) w fun t15_11 =>
 RunA Tryz.prog (bin .geq 3 (.tmp 13) (.tmp 15) t13_10 t15_11) fun t16_12 =>
 IfB t16_12 (
 drw (fun S_13 w =>
 RunS Tryz.prog S_13 (Instr.loadAt 3 t3_1) fun t26_14 =>
 RunU Tryz.prog (Instr.storeAt 9 t4_2 (.string ⟨#[]⟩)) w fun w =>
 S_13 w ∧ (
 RunU Tryz.prog (Instr.storeAt 3 t5_3 t26_14) w fun w =>
 RunW Tryz.prog (Instr.loadAt 9 t4_2) w fun t4_15 =>
 RunW Tryz.prog (Instr.loadAt 3 t5_3) w fun t5_16 =>
 R (.tuple #[t4_15, t5_16]) w)) w) (
 RunW Tryz.prog (Instr.loadAt 3 t3_1) w fun t20_17 =>
 RunA Tryz.prog (Instr.indexAt 54 a0 t20_17) fun t21_18 =>
 RunA Tryz.prog (Instr.fieldAt 88 t21_18 0) fun t22_19 =>
 RunW Tryz.prog (Instr.loadAt 3 t22_19) w fun t23_20 =>
 RunW Tryz.prog (bin .neq 3 (.tmp 23) (.const (.int .i64 1)) t23_20 (.int .i64 1)) w fun t24_21 =>
 IfB t24_21 (
 drw (fun S_22 w =>
 RunS Tryz.prog S_22 (Instr.loadAt 3 t3_1) fun t26_23 =>
 RunU Tryz.prog (Instr.storeAt 9 t4_2 (.string ⟨#[]⟩)) w fun w =>
 S_22 w ∧ (
 RunU Tryz.prog (Instr.storeAt 3 t5_3 t26_23) w fun w =>
 RunW Tryz.prog (Instr.loadAt 9 t4_2) w fun t4_24 =>
 RunW Tryz.prog (Instr.loadAt 3 t5_3) w fun t5_25 =>
 R (.tuple #[t4_24, t5_25]) w)) w) (
 RunV Tryz.prog (Instr.alloc 81 true (.tuple #[])) w fun t6_26 w =>
 RunV Tryz.prog (Instr.alloc 3 true (.tuple #[])) w fun t7_27 w =>
 RunU Tryz.prog (Instr.storeAt 3 t7_27 (.int .i64 0)) w fun w =>
 RunW Tryz.prog (Instr.loadAt 3 t3_1) w fun t28_28 =>
 RunA Tryz.prog (Instr.sliceAt 54 a0 (some t28_28) none none) fun t29_29 =>
 CallF Tryz.prog 114 #[t29_29] w fun t30_30 w =>
 rngP Tryz.prog none 2 7 (fun l_31 K_32 t31_38 t32_39 w =>
 RunV Tryz.prog (Instr.alloc 88 true (.tuple #[])) w fun t9_47 w =>
 RunU Tryz.prog (Instr.storeAt 88 t9_47 t32_39) w fun w =>
 K_32 t3_1 t4_2 t5_3 t6_26 t7_27 t31_38 t9_47 w) (fun l_31 kn_33 ks_34 t3_40 t4_41 t5_42 t6_43 t7_44 t8_45 t9_46 w =>
 RunA Tryz.prog (Instr.fieldAt 88 t9_46 0) fun t33_48 =>
 RunW Tryz.prog (Instr.loadAt 3 t33_48) w fun t34_49 =>
 jn 6 (fun t3_50 t4_51 t5_52 t6_53 t7_54 t8_55 w =>
 RunW Tryz.prog (Instr.loadAt 3 t7_54) w fun t48_57 =>
 RunW Tryz.prog (bin .eql 3 (.tmp 48) (.const (.int .i64 0)) t48_57 (.int .i64 0)) w fun t49_58 =>
 IfB t49_58 (
 drw (fun S_59 w =>
 RunS Tryz.prog S_59 (Instr.loadAt 3 t3_50) fun t51_60 =>
 RunA Tryz.prog (bin .add 3 (.tmp 51) (.tmp 52) t51_60 t8_55) fun t53_61 =>
 RunA Tryz.prog (bin .add 3 (.tmp 53) (.const (.int .i64 1)) t53_61 (.int .i64 1)) fun t54_62 =>
 CallF Tryz.prog 112 #[t6_53] w fun t50_63 w =>
 S_59 w ∧ (
 RunU Tryz.prog (Instr.storeAt 9 t4_51 t50_63) w fun w =>
 S_59 w ∧ (
 RunU Tryz.prog (Instr.storeAt 3 t5_52 t54_62) w fun w =>
 ks_34 .ret w))) w) (
 kn_33 w)) fun j_56 =>
 RunW Tryz.prog (bin .eql 3 (.tmp 34) (.const (.int .i64 1)) t34_49 (.int .i64 1)) w fun t36_64 =>
 IfB t36_64 (
 RunW Tryz.prog (Instr.loadAt 3 t7_44) w fun t37_65 =>
 RunA Tryz.prog (bin .add 3 (.tmp 37) (.const (.int .i64 1)) t37_65 (.int .i64 1)) fun t38_66 =>
 RunU Tryz.prog (Instr.storeAt 3 t7_44 t38_66) w fun w =>
 j_56 t3_40 t4_41 t5_42 t6_43 t7_44 t8_45 w) (
 jn 6 (fun t3_67 t4_68 t5_69 t6_70 t7_71 t8_72 w =>
 j_56 t3_67 t4_68 t5_69 t6_70 t7_71 t8_72 w) fun j_73 =>
 RunW Tryz.prog (bin .eql 3 (.tmp 34) (.const (.int .i64 2)) t34_49 (.int .i64 2)) w fun t40_74 =>
 IfB t40_74 (
 RunW Tryz.prog (Instr.loadAt 3 t7_44) w fun t41_75 =>
 RunA Tryz.prog (bin .sub 3 (.tmp 41) (.const (.int .i64 1)) t41_75 (.int .i64 1)) fun t42_76 =>
 RunU Tryz.prog (Instr.storeAt 3 t7_44 t42_76) w fun w =>
 j_73 t3_40 t4_41 t5_42 t6_43 t7_44 t8_45 w) (
 jn 6 (fun t3_77 t4_78 t5_79 t6_80 t7_81 t8_82 w =>
 j_73 t3_77 t4_78 t5_79 t6_80 t7_81 t8_82 w) fun j_83 =>
 RunW Tryz.prog (bin .eql 3 (.tmp 34) (.const (.int .i64 3)) t34_49 (.int .i64 3)) w fun t44_84 =>
 IfB t44_84 (
 RunA Tryz.prog (Instr.fieldAt 88 t9_46 3) fun t45_85 =>
 RunW Tryz.prog (Instr.loadAt 9 t45_85) w fun t46_86 =>
 CallF Tryz.prog 79 #[t6_43, t46_86] w fun t47_87 w =>
 j_83 t3_40 t4_41 t5_42 t6_43 t7_44 t8_45 w) (
 j_83 t3_40 t4_41 t5_42 t6_43 t7_44 t8_45 w)))) t30_30 w (fun D_35 w =>
 CallF Tryz.prog 112 #[t6_26] w fun t55_88 w =>
 RunW Tryz.prog (Builtin.len_ #[54] 3 #[a0]) w fun t57_89 =>
 RunU Tryz.prog (Instr.storeAt 9 t4_2 t55_88) w fun w =>
 RunU Tryz.prog (Instr.storeAt 3 t5_3 t57_89) w fun w =>
 (w).heap[D_35]? = some (.deferred (some [])) ∧ (
 RunW Tryz.prog (Instr.loadAt 9 t4_2) (w.putObj D_35 (.deferred none)) fun t4_90 =>
 RunW Tryz.prog (Instr.loadAt 3 t5_3) (w.putObj D_35 (.deferred none)) fun t5_91 =>
 R (.tuple #[t4_90, t5_91]) (w.putObj D_35 (.deferred none)))) (fun D_35 c_36 w => jumpK (fun i_37 w =>
 bif Nat.beq i_37 0 then (
 CallF Tryz.prog 112 #[t6_26] w fun t55_92 w =>
 RunW Tryz.prog (Builtin.len_ #[54] 3 #[a0]) w fun t57_93 =>
 RunU Tryz.prog (Instr.storeAt 9 t4_2 t55_92) w fun w =>
 RunU Tryz.prog (Instr.storeAt 3 t5_3 t57_93) w fun w =>
 (w).heap[D_35]? = some (.deferred (some [])) ∧ (
 RunW Tryz.prog (Instr.loadAt 9 t4_2) (w.putObj D_35 (.deferred none)) fun t4_94 =>
 RunW Tryz.prog (Instr.loadAt 3 t5_3) (w.putObj D_35 (.deferred none)) fun t5_95 =>
 R (.tuple #[t4_94, t5_95]) (w.putObj D_35 (.deferred none)))) else (
 False)) (fun w =>
 (w).heap[D_35]? = some (.deferred (some [])) ∧ (
 RunW Tryz.prog (Instr.loadAt 9 t4_2) (w.putObj D_35 (.deferred none)) fun t4_96 =>
 RunW Tryz.prog (Instr.loadAt 3 t5_3) (w.putObj D_35 (.deferred none)) fun t5_97 =>
 R (.tuple #[t4_96, t5_97]) (w.putObj D_35 (.deferred none)))) c_36 w))))
theorem sh86_calls {a0 a1 : Value} {w : World} {R : Value → World → Prop} (h : sh86 a0 a1 w R) : CallF Tryz.prog 86 #[a0, a1] w R :=
  calls_of_denF (mk := true) (args := [a0, a1]) (an := (.seq (.ops [0, 3, 4, 5]) (.seq (.seq (.ops [0, 3, 4, 5, 25]) (.cond (.seq (.draw (.q 0 (.one 1 (.one 2 .fin))) [4, 5]) .leaf) .leaf)) (.seq (.ops [0, 3, 4, 5, 6]) (.seq (.ops [0, 3, 4, 5, 6, 7]) (.seq (.seq (.ops [0, 3, 4, 5, 6, 7, 30]) (.blk (.rng [3, 4, 5, 6, 7, 8, 9] (.seq (.ops [3, 4, 5, 6, 7, 8, 32]) (.ops [3, 4, 5, 6, 7, 8, 9])) (.blk (.seq (.seq (.ops [3, 4, 5, 6, 7, 8, 9, 34]) (.blk (.join [3, 4, 5, 6, 7, 8] (.seq (.ops [3, 4, 5, 6, 7, 8, 9, 34, 35]) (.cond (.ops [3, 4, 5, 6, 7, 8]) (.join [3, 4, 5, 6, 7, 8] (.seq (.ops [3, 4, 5, 6, 7, 8, 9, 34, 39]) (.cond (.ops [3, 4, 5, 6, 7, 8]) (.join [3, 4, 5, 6, 7, 8] (.seq (.ops [3, 4, 5, 6, 7, 8, 9, 43]) (.cond (.ops [3, 4, 5, 6, 7, 8]) .leaf))))))))))) (.seq (.ops [3, 4, 5, 6, 8, 49]) (.cond (.seq (.draw (.q 1 (.q 2 (.q 3 (.q 4 (.one 0 (.one 5 (.one 6 .fin))))))) []) .leaf) .leaf))))))) (.seq (.ops [4, 5]) .leaf))))))) (c := Tryz.f86.body.getD .skip) hentD Tryz.func86 rfl (Nat.le_of_ble_eq_true (by kernel_rfl))
    (Eq.mp (show sh86 a0 a1 w R = denF Tryz.prog entD true Tryz.f86 (.seq (.ops [0, 3, 4, 5]) (.seq (.seq (.ops [0, 3, 4, 5, 25]) (.cond (.seq (.draw (.q 0 (.one 1 (.one 2 .fin))) [4, 5]) .leaf) .leaf)) (.seq (.ops [0, 3, 4, 5, 6]) (.seq (.ops [0, 3, 4, 5, 6, 7]) (.seq (.seq (.ops [0, 3, 4, 5, 6, 7, 30]) (.blk (.rng [3, 4, 5, 6, 7, 8, 9] (.seq (.ops [3, 4, 5, 6, 7, 8, 32]) (.ops [3, 4, 5, 6, 7, 8, 9])) (.blk (.seq (.seq (.ops [3, 4, 5, 6, 7, 8, 9, 34]) (.blk (.join [3, 4, 5, 6, 7, 8] (.seq (.ops [3, 4, 5, 6, 7, 8, 9, 34, 35]) (.cond (.ops [3, 4, 5, 6, 7, 8]) (.join [3, 4, 5, 6, 7, 8] (.seq (.ops [3, 4, 5, 6, 7, 8, 9, 34, 39]) (.cond (.ops [3, 4, 5, 6, 7, 8]) (.join [3, 4, 5, 6, 7, 8] (.seq (.ops [3, 4, 5, 6, 7, 8, 9, 43]) (.cond (.ops [3, 4, 5, 6, 7, 8]) .leaf))))))))))) (.seq (.ops [3, 4, 5, 6, 8, 49]) (.cond (.seq (.draw (.q 1 (.q 2 (.q 3 (.q 4 (.one 0 (.one 5 (.one 6 .fin))))))) []) .leaf) .leaf))))))) (.seq (.ops [4, 5]) .leaf)))))) (Tryz.f86.body.getD .skip) [a0, a1] w R by kernel_rfl) h)
def sh87 (a0 a1 : Value) (w : World) (R : Value → World → Prop) : Prop :=
 RunV Tryz.prog (Instr.box 34 a0) w fun t2_1 w =>
 RunA Tryz.prog (Instr.fieldAt 34 t2_1 1) fun t4_2 =>
 RunW Tryz.prog (Instr.loadAt 9 t4_2) w fun t5_3 =>
 RunA Tryz.prog (Instr.fieldAt 34 a1 1) fun t6_4 =>
 RunW Tryz.prog (Instr.loadAt 9 t6_4) w fun t7_5 =>
 RunW Tryz.prog (bin .eql 9 (.tmp 5) (.tmp 7) t5_3 t7_5) w fun t8_6 =>
 R t8_6 w
theorem sh87_calls {a0 a1 : Value} {w : World} {R : Value → World → Prop} (h : sh87 a0 a1 w R) : CallF Tryz.prog 87 #[a0, a1] w R :=
  calls_of_denF (mk := false) (args := [a0, a1]) (an := (.seq (.ops [1, 2]) (.seq (.ops [3]) .leaf))) (c := Tryz.f87.body.getD .skip) hentD Tryz.func87 rfl (Nat.le_of_ble_eq_true (by kernel_rfl))
    (Eq.mp (show sh87 a0 a1 w R = denF Tryz.prog entD false Tryz.f87 (.seq (.ops [1, 2]) (.seq (.ops [3]) .leaf)) (Tryz.f87.body.getD .skip) [a0, a1] w R by kernel_rfl) h)
def sh88 (a0 : Value) (w : World) (R : Value → World → Prop) : Prop :=
 CallF Tryz.prog 115 #[a0] w fun t7_1 w =>
 RunA Tryz.prog (Instr.extract t7_1 0) fun t8_2 =>
 RunA Tryz.prog (Instr.extract t7_1 1) fun t9_3 =>
 RunW Tryz.prog (bin .neq 28 (.tmp 10) (.const (.int .i64 0)) t9_3 (.int .i64 0)) w fun t11_4 =>
 IfB t11_4 (
 R (.int .i64 0) w) (
 R t8_2 w)
theorem sh88_calls {a0 : Value} {w : World} {R : Value → World → Prop} (h : sh88 a0 w R) : CallF Tryz.prog 88 #[a0] w R :=
  calls_of_denF (mk := false) (args := [a0]) (an := (.seq (.ops [0]) (.seq (.ops [3, 4]) (.seq (.seq (.ops [3, 11]) (.cond (.seq (.ops [2]) .leaf) .leaf)) (.seq (.ops [2]) .leaf))))) (c := Tryz.f88.body.getD .skip) hentD Tryz.func88 rfl (Nat.le_of_ble_eq_true (by kernel_rfl))
    (Eq.mp (show sh88 a0 w R = denF Tryz.prog entD false Tryz.f88 (.seq (.ops [0]) (.seq (.ops [3, 4]) (.seq (.seq (.ops [3, 11]) (.cond (.seq (.ops [2]) .leaf) .leaf)) (.seq (.ops [2]) .leaf)))) (Tryz.f88.body.getD .skip) [a0] w R by kernel_rfl) h)
def sh89 (a0 : Value) (w : World) (R : Value → World → Prop) : Prop :=
 RunV Tryz.prog (Instr.alloc 9 true (.tuple #[])) w fun t2_1 w =>
 CallF Tryz.prog 48 #[a0, (.string ⟨#[104, 116, 116, 112, 58, 47, 47, 119, 119, 119, 46, 119, 51, 46, 111, 114, 103, 47, 50, 48, 48, 53, 47, 65, 116, 111, 109]⟩), (.string ⟨#[108, 105, 110, 107]⟩)] w fun t9_2 w =>
 rngP Tryz.prog none 1 2 (fun l_3 K_4 t10_10 w =>
 K_4 t2_1 t10_10 w) (fun l_3 kn_5 ks_6 t2_11 t3_12 w =>
 CallF Tryz.prog 116 #[t3_12, (.string ⟨#[104, 114, 101, 102]⟩)] w fun t13_13 w =>
 RunA Tryz.prog (Instr.extract t13_13 0) fun t14_14 =>
 RunA Tryz.prog (Instr.extract t13_13 1) fun t15_15 =>
 CallF Tryz.prog 116 #[t3_12, (.string ⟨#[114, 101, 108]⟩)] w fun t18_16 w =>
 RunA Tryz.prog (Instr.extract t18_16 0) fun t19_17 =>
 RunA Tryz.prog (Instr.extract t18_16 1) fun t20_18 =>
 jn 0 (fun w =>
 kn_5 w) fun j_19 =>
 IfB t15_15 (
 RunA Tryz.prog (Op.unary .not t20_18) fun t24_20 =>
 IfB t24_20 (
 CallF Tryz.prog 15 #[t14_14] w fun t31_21 w =>
 RunU Tryz.prog (Instr.storeAt 9 t2_11 t31_21) w fun w =>
 ks_6 .ret w) (
 RunW Tryz.prog (bin .eql 9 (.tmp 26) (.const (.string ⟨#[97, 108, 116, 101, 114, 110, 97, 116, 101]⟩)) t19_17 (.string ⟨#[97, 108, 116, 101, 114, 110, 97, 116, 101]⟩)) w fun t27_22 =>
 IfB t27_22 (
 CallF Tryz.prog 15 #[t14_14] w fun t31_23 w =>
 RunU Tryz.prog (Instr.storeAt 9 t2_11 t31_23) w fun w =>
 ks_6 .ret w) (
 j_19 w))) (
 j_19 w)) t9_2 w (fun D_7 w =>
 RunU Tryz.prog (Instr.storeAt 9 t2_1 (.string ⟨#[]⟩)) w fun w =>
 (w).heap[D_7]? = some (.deferred (some [])) ∧ (
 RunW Tryz.prog (Instr.loadAt 9 t2_1) (w.putObj D_7 (.deferred none)) fun t2_24 =>
 R t2_24 (w.putObj D_7 (.deferred none)))) (fun D_7 c_8 w => jumpK (fun i_9 w =>
 bif Nat.beq i_9 0 then (
 RunU Tryz.prog (Instr.storeAt 9 t2_1 (.string ⟨#[]⟩)) w fun w =>
 (w).heap[D_7]? = some (.deferred (some [])) ∧ (
 RunW Tryz.prog (Instr.loadAt 9 t2_1) (w.putObj D_7 (.deferred none)) fun t2_25 =>
 R t2_25 (w.putObj D_7 (.deferred none)))) else (
 False)) (fun w =>
 (w).heap[D_7]? = some (.deferred (some [])) ∧ (
 RunW Tryz.prog (Instr.loadAt 9 t2_1) (w.putObj D_7 (.deferred none)) fun t2_26 =>
 R t2_26 (w.putObj D_7 (.deferred none)))) c_8 w)
theorem sh89_calls {a0 : Value} {w : World} {R : Value → World → Prop} (h : sh89 a0 w R) : CallF Tryz.prog 89 #[a0] w R :=
  calls_of_denF (mk := true) (args := [a0]) (an := (.seq (.ops [0, 2]) (.seq (.seq (.ops [2, 9]) (.blk (.rng [2, 3] (.ops [2, 3]) (.blk (.seq (.ops [2, 3, 4, 5]) (.seq (.ops [2, 4, 5, 6, 7]) (.join [] (.seq (.ops [2, 4, 29]) (.cond (.seq (.ops []) .leaf) .leaf))))))))) (.seq (.ops [2]) .leaf)))) (c := Tryz.f89.body.getD .skip) hentD Tryz.func89 rfl (Nat.le_of_ble_eq_true (by kernel_rfl))
    (Eq.mp (show sh89 a0 w R = denF Tryz.prog entD true Tryz.f89 (.seq (.ops [0, 2]) (.seq (.seq (.ops [2, 9]) (.blk (.rng [2, 3] (.ops [2, 3]) (.blk (.seq (.ops [2, 3, 4, 5]) (.seq (.ops [2, 4, 5, 6, 7]) (.join [] (.seq (.ops [2, 4, 29]) (.cond (.seq (.ops []) .leaf) .leaf))))))))) (.seq (.ops [2]) .leaf))) (Tryz.f89.body.getD .skip) [a0] w R by kernel_rfl) h)
def sh90 (a0 a1 : Value) (w : World) (R : Value → World → Prop) : Prop :=
 RunW Tryz.prog (Builtin.len_ #[25] 3 #[a0]) w fun t7_1 =>
 lp 1 (fun n_3 t8_2 w =>
 RunA Tryz.prog (bin .lss 3 (.tmp 8) (.tmp 7) t8_2 t7_1) fun t9_4 =>
 IfB t9_4 (
 RunA Tryz.prog (Instr.indexAt 25 a0 t8_2) fun t14_5 =>
 RunW Tryz.prog (Instr.loadAt 34 t14_5) w fun t15_6 =>
 CallV Tryz.prog a1 #[t15_6] w fun t16_7 w =>
 IfB t16_7 (
 R t8_2 w) (
 RunA Tryz.prog (bin .add 3 (.tmp 8) (.const (.int .i64 1)) t8_2 (.int .i64 1)) fun t18_8 =>
 (a0 : Value) = a0 ∧ ((a1 : Value) = a1 ∧ ((t7_1 : Value) = t7_1 ∧ (n_3 t18_8 w))))) (
 R (.int .i64 (-1)) w)) [(.int .i64 0)] w
theorem sh90_calls {a0 a1 : Value} {w : World} {R : Value → World → Prop} (h : sh90 a0 a1 w R) : CallF Tryz.prog 90 #[a0, a1] w R :=
  calls_of_denF (mk := false) (args := [a0, a1]) (an := (.seq (.ops [0, 1]) (.seq (.seq (.ops [0, 1, 7, 8]) (.blk (.loop [0, 1, 7] [8] (.seq (.ops [0, 1, 7, 8, 9]) (.seq (.cond .leaf .leaf) (.seq (.blk (.seq (.ops [0, 1, 5, 7, 8]) (.seq (.ops [0, 1, 5, 7, 8, 16]) (.cond (.seq (.ops [4]) .leaf) .leaf)))) (.ops [0, 1, 7, 8]))))))) (.seq (.ops [4]) .leaf)))) (c := Tryz.f90.body.getD .skip) hentD Tryz.func90 rfl (Nat.le_of_ble_eq_true (by kernel_rfl))
    (Eq.mp (show sh90 a0 a1 w R = denF Tryz.prog entD false Tryz.f90 (.seq (.ops [0, 1]) (.seq (.seq (.ops [0, 1, 7, 8]) (.blk (.loop [0, 1, 7] [8] (.seq (.ops [0, 1, 7, 8, 9]) (.seq (.cond .leaf .leaf) (.seq (.blk (.seq (.ops [0, 1, 5, 7, 8]) (.seq (.ops [0, 1, 5, 7, 8, 16]) (.cond (.seq (.ops [4]) .leaf) .leaf)))) (.ops [0, 1, 7, 8]))))))) (.seq (.ops [4]) .leaf))) (Tryz.f90.body.getD .skip) [a0, a1] w R by kernel_rfl) h)
def sh114 (a0 : Value) (w : World) (R : Value → World → Prop) : Prop :=
 RunV Tryz.prog (Instr.box 54 a0) w fun t1_1 w =>
 RunV Tryz.prog (Instr.makeFunc (Go.Fn.func 135) #[] #[t1_1]) w fun t3_2 w =>
 R t3_2 w
theorem sh114_calls {a0 : Value} {w : World} {R : Value → World → Prop} (h : sh114 a0 w R) : CallF Tryz.prog 114 #[a0] w R :=
  calls_of_denF (mk := false) (args := [a0]) (an := (.seq (.ops [1]) (.seq (.ops [2]) .leaf))) (c := Tryz.f114.body.getD .skip) hentD Tryz.func114 rfl (Nat.le_of_ble_eq_true (by kernel_rfl))
    (Eq.mp (show sh114 a0 w R = denF Tryz.prog entD false Tryz.f114 (.seq (.ops [1]) (.seq (.ops [2]) .leaf)) (Tryz.f114.body.getD .skip) [a0] w R by kernel_rfl) h)
def sh116 (a0 a1 : Value) (w : World) (R : Value → World → Prop) : Prop :=
 RunA Tryz.prog (Instr.indexAt 58 a0 (.int .i64 0)) fun t9_1 =>
 RunA Tryz.prog (Instr.fieldAt 88 t9_1 4) fun t10_2 =>
 RunW Tryz.prog (Instr.loadAt 86 t10_2) w fun t11_3 =>
 RunW Tryz.prog (Builtin.len_ #[86] 3 #[t11_3]) w fun t12_4 =>
 lp 1 (fun n_6 t13_5 w =>
 RunA Tryz.prog (bin .lss 3 (.tmp 13) (.tmp 12) t13_5 t12_4) fun t14_7 =>
 IfB t14_7 (
 RunA Tryz.prog (Instr.indexAt 86 t11_3 t13_5) fun t15_8 =>
 RunW Tryz.prog (Instr.loadAt 158 t15_8) w fun t16_9 =>
 RunV Tryz.prog (Instr.alloc 158 true (.tuple #[])) w fun t7_10 w =>
 RunU Tryz.prog (Instr.storeAt 158 t7_10 t16_9) w fun w =>
 jn 4 (fun t1_11 t11_12 t12_13 t13_14 w =>
 RunA Tryz.prog (bin .add 3 (.tmp 13) (.const (.int .i64 1)) t13_14 (.int .i64 1)) fun t28_16 =>
 (t1_11 : Value) = a1 ∧ ((t11_12 : Value) = t11_3 ∧ ((t12_13 : Value) = t12_4 ∧ (n_6 t28_16 w)))) fun j_15 =>
 RunA Tryz.prog (Instr.fieldAt 158 t7_10 0) fun t17_17 =>
 RunW Tryz.prog (Instr.loadAt 9 t17_17) w fun t18_18 =>
 RunW Tryz.prog (bin .eql 9 (.tmp 18) (.const (.string ⟨#[]⟩)) t18_18 (.string ⟨#[]⟩)) w fun t19_19 =>
 IfB t19_19 (
 RunA Tryz.prog (Instr.fieldAt 158 t7_10 1) fun t21_20 =>
 RunW Tryz.prog (Instr.loadAt 9 t21_20) w fun t22_21 =>
 RunW Tryz.prog (bin .eql 9 (.tmp 22) (.tmp 23) t22_21 a1) w fun t24_22 =>
 IfB t24_22 (
 RunA Tryz.prog (Instr.fieldAt 158 t7_10 2) fun t26_23 =>
 RunW Tryz.prog (Instr.loadAt 9 t26_23) w fun t27_24 =>
 R (.tuple #[t27_24, (.bool true)]) w) (
 j_15 a1 t11_3 t12_4 t13_5 w)) (
 j_15 a1 t11_3 t12_4 t13_5 w)) (
 R (.tuple #[(.string ⟨#[]⟩), (.bool false)]) w)) [(.int .i64 0)] w
theorem sh116_calls {a0 a1 : Value} {w : World} {R : Value → World → Prop} (h : sh116 a0 a1 w R) : CallF Tryz.prog 116 #[a0, a1] w R :=
  calls_of_denF (mk := false) (args := [a0, a1]) (an := (.seq (.ops [0, 1]) (.seq (.seq (.ops [1, 11, 12, 13]) (.blk (.loop [1, 11, 12] [13] (.seq (.ops [1, 11, 12, 13, 14]) (.seq (.cond .leaf .leaf) (.seq (.blk (.seq (.ops [1, 7, 11, 12, 13]) (.join [1, 11, 12, 13] (.seq (.ops [1, 7, 11, 12, 13, 25]) (.cond (.seq (.ops [4, 5]) .leaf) .leaf))))) (.ops [1, 11, 12, 13]))))))) (.seq (.ops [4, 5]) .leaf)))) (c := Tryz.f116.body.getD .skip) hentD Tryz.func116 rfl (Nat.le_of_ble_eq_true (by kernel_rfl))
    (Eq.mp (show sh116 a0 a1 w R = denF Tryz.prog entD false Tryz.f116 (.seq (.ops [0, 1]) (.seq (.seq (.ops [1, 11, 12, 13]) (.blk (.loop [1, 11, 12] [13] (.seq (.ops [1, 11, 12, 13, 14]) (.seq (.cond .leaf .leaf) (.seq (.blk (.seq (.ops [1, 7, 11, 12, 13]) (.join [1, 11, 12, 13] (.seq (.ops [1, 7, 11, 12, 13, 25]) (.cond (.seq (.ops [4, 5]) .leaf) .leaf))))) (.ops [1, 11, 12, 13]))))))) (.seq (.ops [4, 5]) .leaf))) (Tryz.f116.body.getD .skip) [a0, a1] w R by kernel_rfl) h)
def sh135 (a0 a1 : Value) (w : World) (R : Value → World → Prop) : Prop :=
 RunW Tryz.prog (Instr.loadAt 54 a1) w fun t5_1 =>
 RunW Tryz.prog (Builtin.len_ #[54] 3 #[t5_1]) w fun t6_2 =>
 lp 1 (fun n_4 t7_3 w =>
 RunA Tryz.prog (bin .lss 3 (.tmp 7) (.tmp 6) t7_3 t6_2) fun t8_5 =>
 IfB t8_5 (
 RunA Tryz.prog (Instr.indexAt 54 t5_1 t7_3) fun t10_6 =>
 RunW Tryz.prog (Instr.loadAt 88 t10_6) w fun t11_7 =>
 RunV Tryz.prog (Instr.alloc 88 true (.tuple #[])) w fun t4_8 w =>
 RunU Tryz.prog (Instr.storeAt 88 t4_8 t11_7) w fun w =>
 RunA Tryz.prog (Instr.fieldAt 88 t4_8 4) fun t12_9 =>
 RunW Tryz.prog (Instr.loadAt 86 t12_9) w fun t13_10 =>
 CallF Tryz.prog 136 #[t13_10] w fun t14_11 w =>
 RunA Tryz.prog (Instr.fieldAt 88 t4_8 4) fun t15_12 =>
 RunU Tryz.prog (Instr.storeAt 86 t15_12 t14_11) w fun w =>
 RunW Tryz.prog (Instr.loadAt 88 t4_8) w fun t18_13 =>
 CallV Tryz.prog a0 #[t7_3, t18_13] w fun t19_14 w =>
 RunA Tryz.prog (Op.unary .not t19_14) fun t20_15 =>
 IfB t20_15 (
 R (.tuple #[]) w) (
 RunA Tryz.prog (bin .add 3 (.tmp 7) (.const (.int .i64 1)) t7_3 (.int .i64 1)) fun t21_16 =>
 (a0 : Value) = a0 ∧ ((t5_1 : Value) = t5_1 ∧ ((t6_2 : Value) = t6_2 ∧ (n_4 t21_16 w))))) (
 R (.tuple #[]) w)) [(.int .i64 0)] w
theorem sh135_calls {a0 a1 : Value} {w : World} {R : Value → World → Prop} (h : sh135 a0 a1 w R) : CallF Tryz.prog 135 #[a0, a1] w R :=
  calls_of_denF (mk := false) (args := [a0, a1]) (an := (.seq (.ops [0, 5, 6, 7]) (.blk (.loop [0, 5, 6] [7] (.seq (.ops [0, 5, 6, 7, 8]) (.seq (.cond .leaf .leaf) (.seq (.blk (.seq (.ops [0, 3, 4, 5, 6, 7]) (.seq (.ops [0, 3, 4, 5, 6, 7]) (.seq (.ops [0, 5, 6, 7, 20]) (.cond .leaf .leaf))))) (.ops [0, 5, 6, 7])))))))) (c := Tryz.f135.body.getD .skip) hentD Tryz.func135 rfl (Nat.le_of_ble_eq_true (by kernel_rfl))
    (Eq.mp (show sh135 a0 a1 w R = denF Tryz.prog entD false Tryz.f135 (.seq (.ops [0, 5, 6, 7]) (.blk (.loop [0, 5, 6] [7] (.seq (.ops [0, 5, 6, 7, 8]) (.seq (.cond .leaf .leaf) (.seq (.blk (.seq (.ops [0, 3, 4, 5, 6, 7]) (.seq (.ops [0, 3, 4, 5, 6, 7]) (.seq (.ops [0, 5, 6, 7, 20]) (.cond .leaf .leaf))))) (.ops [0, 5, 6, 7]))))))) (Tryz.f135.body.getD .skip) [a0, a1] w R by kernel_rfl) h)
def sh136 (a0 : Value) (w : World) (R : Value → World → Prop) : Prop :=
 RunW Tryz.prog (bin .eql 86 (.tmp 3) (.const (.slice none 0 0)) a0 (.slice none 0 0)) w fun t4_1 =>
 IfB t4_1 (
 R (.slice none 0 0) w) (
 RunV Tryz.prog (Instr.buildSlice 86 0 #[]) w fun t5_2 w =>
 RunV Tryz.prog (Builtin.append_ #[86, 86] 86 #[t5_2, a0]) w fun t7_3 w =>
 R t7_3 w)
theorem sh136_calls {a0 : Value} {w : World} {R : Value → World → Prop} (h : sh136 a0 w R) : CallF Tryz.prog 136 #[a0] w R :=
  calls_of_denF (mk := false) (args := [a0]) (an := (.seq (.ops [0]) (.seq (.seq (.ops [0, 4]) (.cond (.seq (.ops [2]) .leaf) .leaf)) (.seq (.ops [2]) .leaf)))) (c := Tryz.f136.body.getD .skip) hentD Tryz.func136 rfl (Nat.le_of_ble_eq_true (by kernel_rfl))
    (Eq.mp (show sh136 a0 w R = denF Tryz.prog entD false Tryz.f136 (.seq (.ops [0]) (.seq (.seq (.ops [0, 4]) (.cond (.seq (.ops [2]) .leaf) .leaf)) (.seq (.ops [2]) .leaf))) (Tryz.f136.body.getD .skip) [a0] w R by kernel_rfl) h)
end Go.Proofs.YtlflpbflpcmckaaGreatDoor
namespace Go.Ez.XRd
open Go Go.Ez
set_option linter.unusedSimpArgs false
set_option linter.unusedVariables false
variable {r r' r'' : XRd} {n n' : Nat} {p : Txt} {dec : Txt → Int × Nat} {sgn : Int → Txt × Bool}
/-- how much a step makes -/
structure Bnd (n : Nat) (r r' : XRd) : Prop where
  s : r'.s = r.s
  ok : Ok r'
  out : r'.out.length ≤ r.out.length + n
  op : r'.op.length ≤ max r.op.length 64
  run : r'.run.length ≤ r.run.length + (r.s.length + 4)
  up : r.at_ ≤ r'.at_
theorem Stp.bnd (h : Stp r r') : Bnd 0 r r' := ⟨h.s, h.ok, by rw [h.out]; exact Nat.le_refl _, by rw [h.op]; omega, by rw [h.run]; omega, h.up⟩
theorem Bnd.mono (h : Bnd n r r') (hn : n ≤ n') : Bnd n' r r' := ⟨h.s, h.ok, by have := h.out; omega, h.op, h.run, h.up⟩
theorem space_same (f : XFr) (pre : Txt) (r : XRd) : (space f pre r).2.s = r.s ∧ (space f pre r).2.at_ = r.at_ ∧ (space f pre r).2.out = r.out ∧ (space f pre r).2.op = r.op ∧ (space f pre r).2.run = r.run := by
  rw [space_eq]
  split
  · exact ⟨rfl, rfl, rfl, rfl, rfl⟩
  · unfold fail; split <;> exact ⟨rfl, rfl, rfl, rfl, rfl⟩
theorem attsOf_same {f : XFr} : ∀ {l : List XPr} {o : List XAt} {r : XRd}, (attsOf f l o r).2.s = r.s ∧ (attsOf f l o r).2.at_ = r.at_ ∧ (attsOf f l o r).2.out = r.out ∧ (attsOf f l o r).2.op = r.op ∧ (attsOf f l o r).2.run = r.run
  | [], o, r => ⟨rfl, rfl, rfl, rfl, rfl⟩
  | p :: l, o, r => by
    unfold attsOf
    split
    · exact attsOf_same
    · split
      · have h1 := attsOf_same (f := f) (l := l) (o := o ++ [⟨(space f p.pre r).1, p.name, p.value⟩]) (r := (space f p.pre r).2)
        have h2 := space_same f p.pre r
        exact ⟨h1.1.trans h2.1, h1.2.1.trans h2.2.1, h1.2.2.1.trans h2.2.2.1, h1.2.2.2.1.trans h2.2.2.2.1, h1.2.2.2.2.trans h2.2.2.2.2⟩
      · exact attsOf_same
theorem begin_same (nm : Txt × Txt) (l : List XPr) (r : XRd) : (begin_ nm l r).2.s = r.s ∧ (begin_ nm l r).2.at_ = r.at_ ∧ (begin_ nm l r).2.out.length = r.out.length + 1 ∧ (begin_ nm l r).2.op = r.op ∧ (begin_ nm l r).2.run = r.run := by
  have h1 := space_same ⟨nm.1, nm.2, spacesOf l []⟩ nm.1 r
  have h2 := attsOf_same (f := ⟨nm.1, nm.2, spacesOf l []⟩) (l := l) (o := []) (r := (space ⟨nm.1, nm.2, spacesOf l []⟩ nm.1 r).2)
  refine ⟨h2.1.trans h1.1, h2.2.1.trans h1.2.1, ?_, h2.2.2.2.1.trans h1.2.2.2.1, h2.2.2.2.2.trans h1.2.2.2.2⟩
  unfold begin_
  dsimp only
  rw [List.length_append, h2.2.2.1, h1.2.2.1]; rfl
theorem close_same (f : XFr) (r : XRd) : (close f r).s = r.s ∧ (close f r).at_ = r.at_ ∧ (close f r).out.length = r.out.length + 1 ∧ (close f r).op = r.op ∧ (close f r).run = r.run := by
  have h1 := space_same f f.pre r
  refine ⟨h1.1, h1.2.1, ?_, h1.2.2.2.1, h1.2.2.2.2⟩
  unfold close
  dsimp only
  rw [List.length_append, h1.2.2.1]; rfl
theorem bnd_element (hd : DecOk dec) (hl : r.at_ + 1 ≤ r.s.length) : Bnd 2 r (element dec sgn r) ∧ r.at_ < (element dec sgn r).at_ := by
  unfold element
  dsimp only
  have hon := stp_on (r := r) (n := 1) hl
  have hup : r.at_ < (r.on 1).at_ := Nat.lt_succ_self _
  have hq : (r.on 1).at_ ≤ (r.on 1).s.length := hl
  generalize r.on 1 = q at *
  split
  · have h1 := hon.trans (stp_fail (c := 10) (by decide) hon.ok.lt)
    exact ⟨h1.bnd.mono (by omega), by rw [fail_at]; exact hup⟩
  rename_i hdeep
  have h1 := stp_full hq
  have h2 := h1.trans (stp_attrs (dec := dec) (sgn := sgn) hd h1.ok)
  split
  · exact ⟨(hon.trans h2).bnd.mono (by omega), Nat.lt_of_lt_of_le hup h2.up⟩
  have h3 := stp_see (n := 0) h2.ok
  have h4 : Stp (attrs dec sgn q.full.2).2 (if ((attrs dec sgn q.full.2).2.see 0).1 = 47 then ((attrs dec sgn q.full.2).2.see 0).2.on 1 else ((attrs dec sgn q.full.2).2.see 0).2) := by
    split
    · rename_i hc
      obtain ⟨c, hs, hx⟩ := see_c (r := (attrs dec sgn q.full.2).2) (n := 0) (by rw [hc]; decide)
      have := lt_of_at hs
      rw [hx]
      exact stp_on (by omega)
    · exact h3
  have h5 := hon.trans (h2.trans (h4.trans (stp_wants (p := [62]) h4.ok)))
  have hup5 := Nat.lt_of_lt_of_le hup (h2.trans (h4.trans (stp_wants (p := [62]) h4.ok))).up
  generalize wants [62] (if ((attrs dec sgn q.full.2).2.see 0).1 = 47 then ((attrs dec sgn q.full.2).2.see 0).2.on 1 else ((attrs dec sgn q.full.2).2.see 0).2) = z at *
  generalize ((attrs dec sgn q.full.2).2.see 0).1 = x at *
  by_cases hz : z.e ≠ 0
  · rw [if_pos hz]
    exact ⟨h5.bnd.mono (by omega), hup5⟩
  rw [if_neg hz]
  have hb := begin_same q.full.1 (attrs dec sgn q.full.2).1 z
  have hzl := h5.ok.le (Classical.not_not.1 hz)
  have hop : q.op = r.op := hon.op
  have g1 := h5.s; have g2 := h5.out; have g3 := h5.op; have g4 := h5.run
  generalize (begin_ q.full.1 (attrs dec sgn q.full.2).1 z).1 = f at *
  generalize (begin_ q.full.1 (attrs dec sgn q.full.2).1 z).2 = y at *
  obtain ⟨b1, b2, b3, b4, b5⟩ := hb
  split
  · have hc := close_same f y
    obtain ⟨c1, c2, c3, c4, c5⟩ := hc
    refine ⟨⟨by rw [c1, b1, g1], .of_le (by rw [c1, c2, b1, b2]; exact hzl), by rw [c3, b3, g2]; omega, by rw [c4, b4, g3]; omega, by rw [c5, b5, g4]; omega, by rw [c2, b2]; omega⟩, by rw [c2, b2]; exact hup5⟩
  · refine ⟨⟨by show y.s = r.s; rw [b1, g1], .of_le (by show y.at_ ≤ y.s.length; rw [b1, b2]; exact hzl), by show y.out.length ≤ _; rw [b3, g2]; omega, ?_, by show y.run.length ≤ _; rw [b5, g4]; omega, by show r.at_ ≤ y.at_; rw [b2]; omega⟩, by show r.at_ < y.at_; rw [b2]; exact hup5⟩
    show (y.op ++ [f]).length ≤ _
    rw [List.length_append, List.length_singleton, b4, g3]
    rw [hop] at hdeep
    omega
theorem bnd_end (hl : r.at_ + 2 ≤ r.s.length) : Bnd 1 r (end_ r) ∧ r.at_ < (end_ r).at_ := by
  unfold end_
  dsimp only
  have hon := stp_on (r := r) (n := 2) hl
  have hup : r.at_ < (r.on 2).at_ := by show r.at_ < r.at_ + 2; omega
  have hq : (r.on 2).at_ ≤ (r.on 2).s.length := hl
  generalize (r.on 2).op.getLastD default = f
  generalize r.on 2 = q at *
  have h1 := stp_full hq
  generalize decide (q.full.2.e = 0 ∧ ¬ (q.full.1.1 = f.pre ∧ q.full.1.2 = f.name)) = b at *
  have h3 := h1.trans (stp_failIf (b := b) (c := 4) (by decide) h1.ok)
  have h4 := h3.trans (stp_blanks h3.ok)
  have h5 := hon.trans (h4.trans (stp_wants (p := [62]) h4.ok))
  have hup2 := Nat.lt_of_lt_of_le hup (h4.trans (stp_wants (p := [62]) h4.ok)).up
  generalize wants [62] (q.full.2.failIf b 4).blanks.2 = w at *
  have g1 := h5.s; have g2 := h5.out; have g3 := h5.op; have g4 := h5.run
  split
  · rename_i he
    obtain ⟨c1, c2, c3, c4, c5⟩ := close_same f w
    refine ⟨⟨by show (close f w).s = r.s; rw [c1, g1], .of_le (by show (close f w).at_ ≤ (close f w).s.length; rw [c1, c2]; exact h5.ok.le he), by show (close f w).out.length ≤ _; rw [c3, g2]; exact Nat.le_refl _, ?_, by show (close f w).run.length ≤ _; rw [c5, g4]; omega, by show r.at_ ≤ (close f w).at_; rw [c2]; omega⟩, by show r.at_ < (close f w).at_; rw [c2]; exact hup2⟩
    show (close f w).op.dropLast.length ≤ _
    rw [List.length_dropLast, c4, g3]; omega
  · exact ⟨h5.bnd.mono (by omega), hup2⟩
theorem flush_same (r : XRd) : r.flush.at_ = r.at_ ∧ r.flush.s = r.s ∧ r.flush.op = r.op ∧ r.flush.out.length ≤ r.out.length + 1 ∧ r.flush.run = [] := by
  unfold flush
  split
  · unfold fail; split <;> exact ⟨rfl, rfl, rfl, Nat.le_succ _, rfl⟩
  · split
    · exact ⟨rfl, rfl, rfl, by simp, rfl⟩
    · exact ⟨rfl, rfl, rfl, Nat.le_succ _, rfl⟩
theorem bnd_content (hd : DecOk dec) (hpl : ∀ q : XRd, (part dec sgn q).1.length ≤ q.s.length + 4) (hok : Ok r) : Bnd 3 r (content dec sgn r) ∧ Adv r (content dec sgn r) := by
  unfold content
  dsimp only
  have h1 := stp_see (n := 0) hok
  have add : ∀ (q : XRd) (t : Txt), Stp r q → t.length ≤ r.s.length + 4 → Bnd 3 r { q with run := q.run ++ t } := fun q t h ht =>
    ⟨h.s, ⟨h.ok.lt, h.ok.le⟩, by show q.out.length ≤ _; rw [h.out]; omega, by show q.op.length ≤ _; rw [h.op]; omega, by show (q.run ++ t).length ≤ _; rw [List.length_append, h.run]; omega, h.up⟩
  split
  · rename_i hc
    have h2 := h1.trans (stp_part (dec := dec) (sgn := sgn) hd h1.ok)
    have h3 : Adv r (part dec sgn (r.see 0).2).2 := h1.adv (adv_part hd h1.ok)
    exact ⟨add _ _ h2 (by have := hpl (r.see 0).2; rw [see_s] at this; exact this), fun he => h3 he⟩
  rename_i hc
  have hc60 := Classical.not_not.1 hc
  obtain ⟨c, hs, hx⟩ := see_c (r := r) (n := 0) (by rw [hc60]; decide)
  rw [hx]
  dsimp only
  have hy := stp_see (n := 1) hok
  split
  · rename_i hc
    exact ⟨hy.bnd.mono (by omega), fun he => absurd he hc⟩
  rename_i hc
  obtain ⟨d, hs1, hx1⟩ := see_e (Classical.not_not.1 hc)
  rw [hx1]
  dsimp only
  have hlt := lt_of_at hs1
  have hz := stp_see (n := 2) hok
  split
  · rename_i hc
    obtain ⟨c2, hs2, hx2⟩ := see_c (r := r) (n := 2) (by rw [hc.2]; decide)
    rw [hx2]
    dsimp only
    have h2 := stp_wants (p := [60, 33, 91, 67, 68, 65, 84, 65, 91]) hok
    have h3 := h2.trans (stp_til (p := [93, 93, 62]) hd h2.ok)
    have h4 : Adv r (til dec [93, 93, 62] (wants [60, 33, 91, 67, 68, 65, 84, 65, 91] r)).2 := (adv_wants hok).stp (stp_til (p := [93, 93, 62]) hd h2.ok)
    refine ⟨add _ _ h3 ?_, fun he => h4 he⟩
    unfold til
    split
    · exact Nat.zero_le _
    · dsimp only
      rw [List.length_take, List.length_drop, h2.s]; omega
  split
  · have h2 := hz.trans (stp_comment hd hz.ok)
    have h3 : Adv r (comment dec (r.see 2).2) := hz.adv (adv_comment hd hz.ok)
    exact ⟨h2.bnd.mono (by omega), h3⟩
  obtain ⟨f1, f2, f3, f4, f5⟩ := flush_same r
  have fl : ∀ {n : Nat} {r' : XRd}, n ≤ 2 → Bnd n r.flush r' → Bnd 3 r r' := fun {n r'} hn h =>
    ⟨h.s.trans f2, h.ok, by have := h.out; omega, by have := h.op; rw [f3] at this; exact this, by have := h.run; rw [f5, f2] at this; simp at this; omega, by have := h.up; rw [f1] at this; exact this⟩
  split
  · obtain ⟨g1, g2⟩ := bnd_end (r := r.flush) (by rw [f1, f2]; omega)
    exact ⟨fl (by decide) g1, fun _ => by rw [f1] at g2; exact g2⟩
  split
  · obtain ⟨g1, g2⟩ := bnd_element (sgn := sgn) (r := r.flush) hd (by rw [f1, f2]; omega)
    exact ⟨fl (by decide) g1, fun _ => by rw [f1] at g2; exact g2⟩
  · exact ⟨(stp_fail (by decide) hok.lt).bnd.mono (by omega), fun he => absurd he (fail_ne (by decide))⟩
theorem contents_out (hd : DecOk dec) (hpl : ∀ q : XRd, (part dec sgn q).1.length ≤ q.s.length + 4) : ∀ {f : Nat} {r : XRd}, Ok r → (contents dec sgn f r).out.length ≤ r.out.length + 3 * f ∧ Ok (contents dec sgn f r)
  | 0, r, h => ⟨Nat.le_refl _, h⟩
  | f + 1, r, h => by
    unfold contents
    split
    · have h1 := (bnd_content (sgn := sgn) hd hpl h).1
      obtain ⟨h2, h3⟩ := contents_out hd hpl (f := f) h1.ok
      exact ⟨by have := h1.out; omega, h3⟩
    · exact ⟨by omega, h⟩
theorem tokens_len (hd : DecOk dec) (hpl : ∀ q : XRd, (part dec sgn q).1.length ≤ q.s.length + 4) {b : Txt} : (tokens dec sgn b).1.length ≤ 3 * b.length + 8 := by
  unfold tokens
  split
  · exact Nat.zero_le _
  dsimp only
  have h1 := stp_front (dec := dec) (r := ⟨b, 0, 0, [], [], []⟩) hd (Nat.zero_le _)
  generalize front dec ⟨b, 0, 0, [], [], []⟩ = r at *
  have h2 := h1.trans (stp_see (n := 0) h1.ok)
  generalize decide ((r.see 0).2.e = 0 ∧ (r.see 0).1 ≠ 60) = b1
  have h3 := h2.trans (stp_failIf (b := b1) (c := 4) (by decide) h2.ok)
  generalize hq1 : (r.see 0).2.failIf b1 4 = q1 at *
  have h4 := h3.trans (stp_see (n := 1) h3.ok)
  generalize (decide ((q1.see 1).2.e = 0) && !begs (q1.see 1).1) = b2
  have h5 := h4.trans (stp_failIf (b := b2) (c := 4) (by decide) h4.ok)
  have hsee : ((q1.see 1).2.failIf b2 4).e = 0 → ((q1.see 1).2.failIf b2 4).at_ + 1 ≤ ((q1.see 1).2.failIf b2 4).s.length := fun he => by
    have := (stp_failIf (b := b2) (c := 4) (by decide) h4.ok).e0 he
    obtain ⟨c, hc, _⟩ := see_e this
    have hlt := lt_of_at hc
    rw [failIf_at, see_at, failIf_s, see_s]; omega
  generalize (q1.see 1).2.failIf b2 4 = q2 at *
  have hb : Bnd 2 q2 (if q2.e = 0 then element dec sgn q2 else q2) := by
    split
    · rename_i he
      exact (bnd_element (sgn := sgn) hd (hsee he)).1
    · exact (Stp.refl h5.ok).bnd.mono (by omega)
  generalize (if q2.e = 0 then element dec sgn q2 else q2) = q3 at *
  obtain ⟨g1, g2⟩ := contents_out (sgn := sgn) hd hpl (f := b.length + 2) hb.ok
  have h6 := stp_misc (f := b.length + 2) hd g2
  generalize misc dec (b.length + 2) (contents dec sgn (b.length + 2) q3) = z at *
  generalize decide (z.e = 0 ∧ z.at_ < z.s.length) = b3
  have h7 := h6.trans (stp_failIf (b := b3) (c := 4) (by decide) h6.ok)
  have hout : q2.out = [] := h5.out
  have := hb.out
  rw [hout] at this
  split
  · exact Nat.zero_le _
  · dsimp only
    rw [h7.out]
    simp only [List.length_nil] at this
    omega
end Go.Ez.XRd
namespace Go.Proofs.YtlflpbflpcmckaaGreatDoor
open Go Go.Ez Go.RowKit Go.Lib
set_option linter.unusedSimpArgs false
set_option linter.unusedVariables false
/-- v tells tokens -/
def Toks (W : World) (v : Value) (ts : List XTk) : Prop := ∃ ov : List (XTk × Value), ov.map Prod.fst = ts ∧ Sl W 5 v ov.length (rcells tcell ov) ∧ ∀ p ∈ ov, p.2.oneCell' = true ∧ Sl W 3 p.2 p.1.attrs.length (rcells atc p.1.attrs)
theorem Toks.below {W W' : World} {v : Value} {ts : List XTk} (h : Toks W v ts) (hb : Below W.heap.size W W') : Toks W' v ts := by
  obtain ⟨ov, h1, h2, h3⟩ := h
  exact ⟨ov, h1, h2.below hb, fun p hp => ⟨(h3 p hp).1, (h3 p hp).2.below hb⟩⟩
theorem Toks.nil (W : World) : Toks W (.slice none 0 0) [] := ⟨[], rfl, Sl.nil W 5, fun p hp => by cases hp⟩
abbrev tokX (s : Txt) : List XTk × Int := XRd.tokens decX signS s
section
variable {w0 W W' : World} {G : Nat → Prop} {l R R1 R2 : List As} {RR : Value → World → Prop} {t s pre : Txt} {b g n mb : Nat} {r : XRd} {v : Value} {f : XFr} {m : XMem} {L : List XPr} {name : Txt × Txt}
theorem nil_tks {vo vp vb : Value} (h : St w0 G R W) : St w0 G (Ky (.slice none 0 0) (TkS []) :: Ky (.slice none 0 0) (FrS []) :: Ky (.slice none 0 0) (Ow 5 1 0 []) :: Ky PoolK.a (KqA []) :: Ky PoolK.b (Km []) :: R) W :=
  (((St.kqNil PoolK.a atc 158 3 (St.kmNil PoolK.b h)).nilOw).nilOw).nilOw
theorem tokens_spec (hT : XTabs w0) (h : St w0 G0 l W) (hv : By W v s) (k : ∀ v' W', St w0 G0 l W' → Toks W' v' (tokX s).1 → RR (.tuple #[v', .int .i64 (tokX s).2]) W') : CallF Tryz.prog 26 #[v] W RR := by
  refine sh26_calls ?_
  unfold sh26
  have hpl : ∀ q : XRd, (XRd.part decX signS q).1.length ≤ q.s.length + 4 := fun q => part_len
  unfold tokX XRd.tokens at k
  refine x_lenS hv (a_gtr (ifd (fun hc => ?_) fun hc => ?_))
  · rw [if_pos (by omega)] at k
    exact k _ W h (.nil W)
  rw [if_neg (by omega)] at k
  dsimp only at k
  have hs : s.length ≤ 20000 := by omega
  refine x_str hv ?_
  refine x_bld (cells := (xcells ⟨s, 0, 0, [], [], []⟩ (.slice none 0 0, .slice none 0 0, .pointer none, .slice none 0 0)).toArray) rfl ?_
  refine h.boxS fun b W h => ?_
  obtain ⟨m, hm, h⟩ : ∃ m, XFit ⟨s, 0, 0, [], [], []⟩ m ∧ St w0 G0 (XLs ⟨s, 0, 0, [], [], []⟩ b m l) W := by
    refine ⟨⟨.slice none 0 0, .slice none 0 0, .slice none 0 0, false, [], [], [], []⟩, ⟨rfl, by simp, rfl, by simp⟩, ?_⟩
    have h2 := nil_tks (vo := .nilFunc) (vp := .nilFunc) (vb := .nilFunc) h
    exact h2.find (k := b) (X := Xo ⟨s, 0, 0, [], [], []⟩ (.slice none 0 0, .slice none 0 0, .pointer none, .slice none 0 0))
  have hst1 := XRd.stp_front (dec := decX) (r := ⟨s, 0, 0, [], [], []⟩) decX_ok (Nat.zero_le _)
  -- what does not touch tokens
  have keep : ∀ {q z : XRd} {W : World} {m : XMem}, XRd.Stp q z → XFit q m → St w0 G0 (Ky b (Xo z (xc b m)) :: Ky m.vo (TkS m.ov) :: Ky m.vp (FrS m.pv) :: Ky m.vb (Ow 5 1 q.run.length (bytesV q.run)) :: Ky PoolK.a (KqA m.zs) :: Ky PoolK.b (Km m.ms) :: l) W → XFit z m ∧ St w0 G0 (XLs z b m l) W := fun hst hm h =>
    ⟨hm.same hst.out hst.op, xls_of hst.run h⟩
  refine front_spec hT (r := ⟨s, 0, 0, [], [], []⟩) (c := xc b m) h (Nat.zero_le _) (by show s.length ≤ _; omega) fun W h => ?_
  replace h := keep hst1 hm h
  generalize XRd.front decX ⟨s, 0, 0, [], [], []⟩ = r at *
  obtain ⟨hm, h⟩ := h
  have hrs : r.s = s := hst1.s
  have hrs' : r.s.length = s.length := by rw [hrs]
  have hr0 : r.out = [] ∧ r.op = [] ∧ r.run = [] := ⟨hst1.out, hst1.op, hst1.run⟩
  have hst2 := XRd.stp_see (n := 0) hst1.ok
  refine see_spec (n := 0) (r := r) (c := xc b m) h hst1.ok (by omega) (by decide) fun W h => ?_
  obtain ⟨hm, h⟩ := keep hst2 hm h
  generalize hq1 : (r.see 0).2.failIf (decide ((r.see 0).2.e = 0 ∧ (r.see 0).1 ≠ 60)) 4 = q1 at k
  have hst3 : XRd.Stp r q1 := by rw [← hq1]; exact hst2.trans (XRd.stp_failIf (by decide) hst2.ok)
  refine jni (fun vs W' => vs = [.pointer (some ⟨b, 0, none⟩)] ∧ ∃ m, XFit q1 m ∧ St w0 G0 (XLs q1 b m l) W') ?_ ?_
  rotate_left
  · refine a_nil (a_fld0 (h.load ?_))
    refine w_eql (ifd (fun he => ?_) fun he => ?_)
    · refine w_neC 60 rfl (ifd (fun h60 => ?_) fun h60 => ?_)
      · refine fail_spec (r := (r.see 0).2) (c := xc b m) h fun W h => ⟨rfl, m, ?_⟩
        rw [decide_eq_true (show _ ∧ _ from ⟨he, h60⟩)] at hq1
        rw [← hq1]
        exact keep (XRd.stp_fail (by decide) hst2.ok.lt) hm h
      · refine ⟨rfl, m, ?_⟩
        rw [decide_eq_false (fun hx => h60 hx.2)] at hq1
        rw [← hq1]
        exact ⟨hm, h⟩
    · refine ⟨rfl, m, ?_⟩
      rw [decide_eq_false (fun hx => he hx.1)] at hq1
      rw [← hq1]
      exact ⟨hm, h⟩
  clear h hm
  rintro vs W _ ⟨rfl, m, hm, h⟩
  refine app1 ?_
  have hst4 := hst3.trans (XRd.stp_see (n := 1) hst3.ok)
  have hq1s : q1.s.length = s.length := by rw [hst3.s, hrs]
  refine see_spec (n := 1) (r := q1) (c := xc b m) h hst3.ok (by omega) (by decide) fun W h => ?_
  obtain ⟨hm, h⟩ := keep (XRd.stp_see (n := 1) hst3.ok) hm h
  have hx1 : (q1.see 1).2.e = 0 → q1.at_ + 1 < q1.s.length := fun he => by
    obtain ⟨c, hc, _⟩ := XRd.see_e he
    exact XRd.lt_of_at hc
  have hxa : (q1.see 1).2.at_ = q1.at_ := XRd.see_at
  generalize q1.see 1 = Y at *
  obtain ⟨y1, y⟩ := Y
  simp only at *
  generalize hq2 : y.failIf (decide (y.e = 0) && !XRd.begs y1) 4 = q2 at k
  have hst5 : XRd.Stp r q2 := by rw [← hq2]; exact hst4.trans (XRd.stp_failIf (by decide) hst4.ok)
  have hq2x : q2.e = 0 → q2.at_ + 1 ≤ q2.s.length := fun he => by
    obtain ⟨_, e2⟩ := XRd.failIf_e (by decide) (show (y.failIf _ 4).e = 0 by rw [hq2]; exact he)
    rw [hq2] at e2
    have h1 := hx1 (by rw [← e2]; exact he)
    have h2 : q2.at_ = q1.at_ := by rw [e2, hxa]
    have h3 : q2.s.length = q1.s.length := by rw [hst5.s, hst3.s]
    omega
  refine jni (fun vs W' => vs = [.pointer (some ⟨b, 0, none⟩)] ∧ ∃ m, XFit q2 m ∧ St w0 G0 (XLs q2 b m l) W') ?_ ?_
  rotate_left
  · refine a_nil (a_fld0 (h.load ?_))
    refine w_eql (ifd (fun he => ?_) fun he => ?_)
    · refine begins_spec (a_not (ifnb (fun hb => ?_) fun hb => ?_))
      · refine fail_spec (r := y) (c := xc b m) h fun W h => ⟨rfl, m, ?_⟩
        rw [decide_eq_true he, hb] at hq2
        rw [← hq2]
        exact keep (XRd.stp_fail (by decide) hst4.ok.lt) hm h
      · refine ⟨rfl, m, ?_⟩
        rw [hb, Bool.not_true, Bool.and_false] at hq2
        rw [← hq2]
        exact ⟨hm, h⟩
    · refine ⟨rfl, m, ?_⟩
      rw [decide_eq_false he, Bool.false_and] at hq2
      rw [← hq2]
      exact ⟨hm, h⟩
  clear h hm
  rintro vs W _ ⟨rfl, m, hm, h⟩
  refine app1 ?_
  clear hq2 hst4 hxa hx1
  have hq2s : q2.s.length = s.length := by rw [hst5.s, hrs]
  have hq2o : q2.out = [] ∧ q2.op = [] ∧ q2.run = [] := ⟨hst5.out.trans hr0.1, hst5.op.trans hr0.2.1, hst5.run.trans hr0.2.2⟩
  generalize hq3 : (if q2.e = 0 then XRd.element decX signS q2 else q2) = q3 at k
  have hb3 : XRd.Bnd 2 q2 q3 := by
    rw [← hq3]
    split
    · rename_i he
      exact (XRd.bnd_element (sgn := signS) decX_ok (hq2x he)).1
    · exact (XRd.Stp.refl hst5.ok).bnd.mono (by omega)
  refine jni (fun vs W' => vs = [.pointer (some ⟨b, 0, none⟩)] ∧ ∃ m, XFit q3 m ∧ St w0 G0 (XLs q3 b m l) W') ?_ ?_
  rotate_left
  · refine a_nil (a_fld0 (h.load ?_))
    refine w_eql (ifd (fun he => ?_) fun he => ?_)
    · rw [if_pos he] at hq3
      rw [← hq3]
      exact element_spec hT (r := q2) h hm (hq2x he) (by omega) (by rw [hq2o.2.1]; exact Nat.zero_le _) (by rw [hq2o.1]; exact Nat.zero_le _) fun m' W hm' h => ⟨rfl, m', hm', h⟩
    · rw [if_neg he] at hq3
      rw [← hq3]
      exact ⟨rfl, m, hm, h⟩
  clear h hm
  rintro vs W _ ⟨rfl, m, hm, h⟩
  refine app1 ?_
  have hq3s : q3.s.length = s.length := by rw [hb3.s, hq2s]
  generalize hq4 : XRd.contents decX signS (s.length + 2) q3 = q4 at k
  refine jni (fun vs W' => vs = [.pointer (some ⟨b, 0, none⟩)] ∧ q4.Ok ∧ q4.s.length = s.length ∧ ∃ m, XFit q4 m ∧ St w0 G0 (XLs q4 b m l) W') ?_ ?_
  rotate_left
  · have ho := hb3.out
    have hp := hb3.op
    have hr := hb3.run
    rw [hq2o.1] at ho
    rw [hq2o.2.1] at hp
    rw [hq2o.2.2] at hr
    simp only [List.length_nil] at ho hp hr
    refine lpx (α := Nat × XRd) (fun _ => []) (fun A W' => A.2.Ok ∧ A.2.s.length = s.length ∧ A.2.op.length ≤ 64 ∧ A.2.out.length + 3 * A.1 ≤ 3 * (s.length + 2) + 2 ∧ A.2.run.length + A.1 * 30000 ≤ (s.length + 4) * 30000 ∧ (A.2.e = 0 → s.length < A.1 + A.2.at_) ∧ XRd.contents decX signS A.1 A.2 = q4 ∧ ∃ m, XFit A.2 m ∧ St w0 G0 (XLs A.2 b m l) W') (fun A => A.1) (s.length + 2, q3) (fun _ => rfl) rfl
      ⟨hb3.ok, hq3s, by simp only; omega, by simp only; omega, by simp only; omega, fun _ => by simp only; omega, hq4, m, hm, h⟩ ?_
    clear h hm
    rintro next ⟨f, z⟩ W1 hnext ⟨h1, h2, h3, h4, h5, h6, h7, m, hm, h⟩
    simp only at h1 h2 h3 h4 h5 h6 h7 hm h
    refine app0 ?_
    have hplen := hm.plen
    refine a_nil (a_fld0 (h.load ?_))
    refine w_eql (ifd (fun he => ?_) fun he => ?_)
    · refine a_nil (a_fld0 (h.load ?_))
      refine x_lenS (h.osl (v := m.vp)) ?_
      refine a_gtr (ifd (fun hg => ?_) fun hg => ?_)
      · have h6' := h6 he
        have hzl := h1.le he
        obtain ⟨f, rfl⟩ : ∃ g, f = g + 1 := ⟨f - 1, by omega⟩
        have hne : z.op ≠ [] := fun e => by rw [e] at hplen; simp only [List.length_nil] at hplen; omega
        unfold XRd.contents at h7
        rw [if_pos ⟨he, hne⟩] at h7
        obtain ⟨b1, b2⟩ := XRd.bnd_content (sgn := signS) decX_ok hpl h1
        have ho := b1.out
        have hp := b1.op
        have hr := b1.run
        have h5' : (XRd.content decX signS z).run.length + f * 30000 ≤ (s.length + 4) * 30000 := by rw [Nat.succ_mul] at h5; omega
        refine content_spec hT (r := z) h hm h1 (by omega) hne (by omega) (by omega) (by omega) fun m' W hm' h => ⟨trivial, ?_⟩
        exact hnext (f, XRd.content decX signS z) W (by simp) ⟨b1.ok, by rw [b1.s]; exact h2, by simp only; omega, by simp only; omega, h5', fun h0 => by have := b2 h0; simp only; omega, h7, m', hm', h⟩
      · have hne : z.op = [] := List.eq_nil_of_length_eq_zero (by omega)
        have : z = q4 := by
          rw [← h7]
          cases f
          · rfl
          · unfold XRd.contents; rw [if_neg (fun hx => hx.2 hne)]
        rw [← this]
        exact ⟨rfl, h1, h2, m, hm, h⟩
    · have : z = q4 := by
        rw [← h7]
        cases f
        · rfl
        · unfold XRd.contents; rw [if_neg (fun hx => he hx.1)]
      rw [← this]
      exact ⟨rfl, h1, h2, m, hm, h⟩
  clear h hm
  rintro vs W _ ⟨rfl, hok4, hq4s, m, hm, h⟩
  refine app1 ?_
  refine misc_spec hT (f := s.length + 2) (r := q4) (c := xc b m) h hok4 (by omega) (by omega) fun W h => ?_
  have hst6 := XRd.stp_misc (dec := decX) (f := s.length + 2) decX_ok hok4
  obtain ⟨hm, h⟩ := keep hst6 hm h
  generalize XRd.misc decX (s.length + 2) q4 = q5 at *
  have hq5s : q5.s.length = s.length := by rw [hst6.s]; exact hq4s
  have hq5l := hst6.ok.lt
  generalize hq6 : q5.failIf (decide (q5.e = 0 ∧ q5.at_ < q5.s.length)) 4 = q6 at k
  refine jni (fun vs W' => vs = [.pointer (some ⟨b, 0, none⟩)] ∧ ∃ m, XFit q6 m ∧ St w0 G0 (XLs q6 b m l) W') ?_ ?_
  · clear h hm
    rintro vs W _ ⟨rfl, m, hm, h⟩
    refine app1 ?_
    refine a_nil (a_fld0 (h.load ?_))
    refine w_neq (ifd (fun he => ?_) fun he => ?_)
    · rw [if_pos he] at k
      refine ⟨St w0 G0 _, h.drew, ?_⟩
      replace h := h.drew
      refine a_nil (a_fld0 (ss_load ?_))
      exact k _ _ h.to (.nil _)
    · rw [if_neg he] at k
      refine a_nil (a_fld0 (h.load ?_))
      refine k _ _ h.to ⟨m.ov, hm.ov, h.osl (v := m.vo), fun p hp => ⟨(hm.oz p hp).2, ?_⟩⟩
      rcases (hm.oz p hp).1 with hz | ⟨e1, e2⟩
      · exact h.kqGet (k := PoolK.a) hz
      · rw [e1, e2]; exact Sl.nil W 3
  · have fin1 : ¬ (q5.e = 0 ∧ q5.at_ < q5.s.length) → ∀ W, St w0 G0 (XLs q5 b m l) W → ([Value.pointer (some ⟨b, 0, none⟩)] = [.pointer (some ⟨b, 0, none⟩)] ∧ ∃ m, XFit q6 m ∧ St w0 G0 (XLs q6 b m l) W) := fun hx W h => by
      rw [decide_eq_false hx] at hq6
      rw [← hq6]
      exact ⟨rfl, m, hm, h⟩
    refine ⟨St w0 G0 _, h.drew, ?_⟩
    replace h := h.drew
    (repeat (first | (with_reducible refine ift ?_) | (with_reducible refine iff' ?_) | (with_reducible refine a_lss ?_) | (with_reducible refine a_leq ?_) | (with_reducible refine a_gtr ?_) | (with_reducible refine a_geq ?_) | (with_reducible refine w_eql ?_) | (with_reducible refine w_neq ?_) | (with_reducible refine s_eql ?_) | (with_reducible refine s_neq ?_) | ((with_reducible refine a_add64 ?h0 ?h1 ?_); (case h0 => omega); (case h1 => omega);  skip) | ((with_reducible refine a_sub64 ?h0 ?h1 ?_); (case h0 => omega); (case h1 => omega);  skip) | ((with_reducible refine a_mul64 ?h0 ?h1 ?_); (case h0 => omega); (case h1 => omega);  skip) | (with_reducible refine a_notd ?_) | (with_reducible refine a_not ?_) | (with_reducible refine a_ext0 ?_) | (with_reducible refine a_ext1 ?_) | (with_reducible refine a_ext2 ?_) | (with_reducible refine x_len ?_) | (with_reducible refine x_lens ?_) | (with_reducible refine x_eqb ?_) | (with_reducible refine x_neb ?_) | (with_reducible refine x_nilP ?_) | (with_reducible refine x_nilPn ?_) | (with_reducible refine x_nilF ?_) | (with_reducible refine x_nilFF ?_) | (with_reducible refine w_eqlL ?_) | (with_reducible refine w_neqL ?_) | (with_reducible refine s_eqlL ?_) | (with_reducible refine ifnt ?_) | (with_reducible refine ifnf ?_) | (with_reducible refine x_eqB ?_) | (with_reducible refine x_neB ?_) | (with_reducible refine x_lssL ?_) | (with_reducible refine x_gtrL ?_) | (with_reducible refine x_geqL ?_) | (with_reducible refine s_neqL ?_) | (with_reducible refine St.load h ?_) | (with_reducible refine St.loadS h ?_) | (with_reducible refine a_fld0 ?_) | (with_reducible refine St.store h fun W h => ?_) | (with_reducible refine St.storeS h fun W h => ?_) | (with_reducible refine St.alloc h fun b W h => ?_) | (with_reducible refine St.allocS h fun b W h => ?_) | (with_reducible refine a_nil ?_) | (with_reducible refine ss_load ?_) | (with_reducible refine ss_loadS ?_) | (with_reducible refine ss_eqb ?_)))
    refine ifd (fun he => ?_) fun he => fin1 (fun hx => he hx.1) _ h
    (repeat (first | (with_reducible refine ift ?_) | (with_reducible refine iff' ?_) | (with_reducible refine a_lss ?_) | (with_reducible refine a_leq ?_) | (with_reducible refine a_gtr ?_) | (with_reducible refine a_geq ?_) | (with_reducible refine w_eql ?_) | (with_reducible refine w_neq ?_) | (with_reducible refine s_eql ?_) | (with_reducible refine s_neq ?_) | ((with_reducible refine a_add64 ?h0 ?h1 ?_); (case h0 => omega); (case h1 => omega);  skip) | ((with_reducible refine a_sub64 ?h0 ?h1 ?_); (case h0 => omega); (case h1 => omega);  skip) | ((with_reducible refine a_mul64 ?h0 ?h1 ?_); (case h0 => omega); (case h1 => omega);  skip) | (with_reducible refine a_notd ?_) | (with_reducible refine a_not ?_) | (with_reducible refine a_ext0 ?_) | (with_reducible refine a_ext1 ?_) | (with_reducible refine a_ext2 ?_) | (with_reducible refine x_len ?_) | (with_reducible refine x_lens ?_) | (with_reducible refine x_eqb ?_) | (with_reducible refine x_neb ?_) | (with_reducible refine x_nilP ?_) | (with_reducible refine x_nilPn ?_) | (with_reducible refine x_nilF ?_) | (with_reducible refine x_nilFF ?_) | (with_reducible refine w_eqlL ?_) | (with_reducible refine w_neqL ?_) | (with_reducible refine s_eqlL ?_) | (with_reducible refine ifnt ?_) | (with_reducible refine ifnf ?_) | (with_reducible refine x_eqB ?_) | (with_reducible refine x_neB ?_) | (with_reducible refine x_lssL ?_) | (with_reducible refine x_gtrL ?_) | (with_reducible refine x_geqL ?_) | (with_reducible refine s_neqL ?_) | (with_reducible refine St.load h ?_) | (with_reducible refine St.loadS h ?_) | (with_reducible refine a_fld0 ?_) | (with_reducible refine St.store h fun W h => ?_) | (with_reducible refine St.storeS h fun W h => ?_) | (with_reducible refine St.alloc h fun b W h => ?_) | (with_reducible refine St.allocS h fun b W h => ?_) | (with_reducible refine a_nil ?_) | (with_reducible refine ss_load ?_) | (with_reducible refine ss_loadS ?_) | (with_reducible refine ss_eqb ?_)))
    refine ifd (fun hg => ?_) fun hg => fin1 (fun hx => hg (by omega)) _ h
    refine fail_spec (r := q5) (c := xc b m) h fun W h => ⟨rfl, m, ?_⟩
    rw [decide_eq_true (show q5.e = 0 ∧ q5.at_ < q5.s.length from ⟨he, by omega⟩)] at hq6
    rw [← hq6]
    exact keep (XRd.stp_fail (by decide) hst6.ok.lt) hm h
end
end Go.Proofs.YtlflpbflpcmckaaGreatDoor
namespace Go.Proofs.YtlflpbflpcmckaaGreatDoor
open Go Go.Ez Go.RowKit Go.Lib Go.ChangeShapes Go.WideShapes
set_option linter.unusedVariables false
/-- a variable that holds an error -/
theorem err_of_var {P : Program} {W : World} {name nm : String} {d : DataW Unit} {g : Nat} {ti : TypeId} {ms : Array (String × TypeId)} (hg : P.globalNamed name = some g) (ht : (P.globals[g]?).map (·.type) = some ti) (hi : P.underlying ti = some (.interface ms))
    (h : VarReads P W name (.iface nm d)) : ∃ ev, W.cell? ⟨g, 0, none⟩ = some ev ∧ (ev = .nilIface ∨ ∃ te pe, ev = .iface te pe) := by
  obtain ⟨g', t', cs, fuel, p, hg', ht', hvar, hd⟩ := h
  obtain rfl := Option.some.inj (hg.symm.trans hg')
  obtain rfl := Option.some.inj (ht.symm.trans ht')
  obtain ⟨f1, u, v, hcs, _⟩ := iface_of_trod hi hd
  refine ⟨.iface u v, ?_, .inr ⟨u, v, rfl⟩⟩
  rw [World.var?_cell hg hvar 0, ← Array.getElem?_toList, hcs]
  rfl
theorem u8types : U8Types Tryz.prog Tryz.lays197_ren := { Tryz.lays197 with }
theorem xtabs_of {W : World} {d1 : DataW Unit} {n1 : String} (h1 : VarReads Tryz.prog W "unicode/utf8.first" Go.Lib.firstData) (h2 : VarReads Tryz.prog W "unicode/utf8.acceptRanges" Go.Lib.acceptData) (h3 : VarReads Tryz.prog W "strconv.ErrSyntax" (.iface n1 d1)) : XTabs W :=
  ⟨utf8Tabs_of_readsT u8types ⟨by kernel_rfl, by kernel_rfl, by kernel_rfl, by kernel_rfl, by kernel_rfl, by kernel_rfl, by kernel_rfl⟩ h1 h2, err_of_var (g := 3) (ti := 128) (by kernel_rfl) (by kernel_rfl) Tryz.underlying128 h3⟩
end Go.Proofs.YtlflpbflpcmckaaGreatDoor
namespace Go.Ez.XRd
open Go Go.Ez
theorem chk_app : ∀ {a b done st : List XTk}, chk (a ++ b) done st = (chk a done st).bind fun st => chk b (done ++ a) st
  | [], b, done, st => by rw [List.nil_append, List.append_nil]; rfl
  | t :: a, b, done, st => by
    rw [List.cons_append]
    have ih := fun s => chk_app (a := a) (b := b) (done := done ++ [t]) (st := s)
    show (match chkStep done st t with | none => none | some st => chk (a ++ b) (done ++ [t]) st) = Option.bind (match chkStep done st t with | none => none | some st => chk a (done ++ [t]) st) fun st => chk b (done ++ t :: a) st
    cases chkStep done st t with
    | none => rfl
    | some st' =>
      simp only
      rw [ih, List.append_assoc, List.singleton_append]
theorem chk_at {ts : List XTk} {s : List XTk} (h : chk ts [] [] = some s) {i : Nat} {t : XTk} (hi : ts[i]? = some t) {st : List XTk} (hst : chk (ts.take i) [] [] = some st) : ∃ st', chkStep (ts.take i) st t = some st' ∧ chk (ts.take (i + 1)) [] [] = some st' := by
  have e1 : ts.take (i + 1) = ts.take i ++ [t] := by rw [List.take_add_one, hi]; rfl
  have e2 : chk (ts.take (i + 1)) [] [] = chkStep (ts.take i) st t := by
    rw [e1, chk_snoc, hst]; rfl
  have e3 := chk_app (a := ts.take (i + 1)) (b := ts.drop (i + 1)) (done := []) (st := [])
  rw [List.take_append_drop, h] at e3
  cases hx : chkStep (ts.take i) st t with
  | none => rw [e2, hx] at e3; cases e3
  | some st' => exact ⟨st', rfl, e2.trans hx⟩
end Go.Ez.XRd
namespace Go.Ez.XRd
open Go Go.Ez
set_option linter.unusedSimpArgs false
set_option linter.unusedVariables false
variable {r r' : XRd} {N : Nat} {dec : Txt → Int × Nat} {sgn : Int → Txt × Bool}
/-- tokens' attributes are so many at most -/
def AB (N : Nat) (out : List XTk) : Prop := ∀ t ∈ out, t.attrs.length ≤ N ∧ (t.kind ≠ 3 → t.text = []) ∧ ∀ a ∈ t.attrs, a.value.length ≤ N * (N + 1)
theorem AB.snoc {out : List XTk} {t : XTk} (h : AB N out) (ht : t.attrs.length ≤ N) (hx : t.kind ≠ 3 → t.text = []) (hv : ∀ a ∈ t.attrs, a.value.length ≤ N * (N + 1)) : AB N (out ++ [t]) := fun u hu => by
  rcases List.mem_append.1 hu with hu | hu
  · exact h u hu
  · rw [List.mem_singleton.1 hu]; exact ⟨ht, hx, hv⟩
theorem attrsGo_len : ∀ {f : Nat} {l : List XPr} {r : XRd}, (attrsGo dec sgn f l r).1.length ≤ l.length + f
  | 0, l, r => Nat.le_refl _
  | f + 1, l, r => by
    unfold attrsGo
    split
    · exact Nat.le_add_right _ _
    · dsimp only
      split
      · exact Nat.le_add_right _ _
      · split
        · have := attrsGo_len (f := f) (l := l) (r := (r.blanks.2.see 0).2.fail 4)
          omega
        · have := attrsGo_len (f := f) (l := l ++ [(attr dec sgn l (r.blanks.2.see 0).2).1]) (r := (attr dec sgn l (r.blanks.2.see 0).2).2)
          rw [List.length_append, List.length_singleton] at this
          omega
theorem attsOf_len {f : XFr} : ∀ {l : List XPr} {o : List XAt} {r : XRd}, (attsOf f l o r).1.length ≤ o.length + l.length
  | [], o, r => Nat.le_refl _
  | a :: l, o, r => by
    unfold attsOf
    split
    · have := attsOf_len (f := f) (l := l) (o := o) (r := r)
      rw [List.length_cons]; omega
    · split
      · have := attsOf_len (f := f) (l := l) (o := o ++ [⟨(space f a.pre r).1, a.name, a.value⟩]) (r := (space f a.pre r).2)
        rw [List.length_append, List.length_singleton] at this
        rw [List.length_cons]; omega
      · have := attsOf_len (f := f) (l := l) (o := o ++ [⟨[], a.name, a.value⟩]) (r := r)
        rw [List.length_append, List.length_singleton] at this
        rw [List.length_cons]; omega
theorem valGo_len (hd : DecOk dec) (hpl : ∀ q : XRd, (part dec sgn q).1.length ≤ q.s.length + 4) {q : UInt8} : ∀ {f : Nat} {b : Txt} {r : XRd}, Ok r → (valGo dec sgn q f b r).1.length ≤ b.length + f * (r.s.length + 4)
  | 0, b, r, h => Nat.zero_le _
  | f + 1, b, r, h => by
    have hm : f * (r.s.length + 4) ≤ (f + 1) * (r.s.length + 4) := Nat.mul_le_mul_right _ (Nat.le_succ f)
    have hm1 : (f + 1) * (r.s.length + 4) = f * (r.s.length + 4) + (r.s.length + 4) := Nat.succ_mul _ _
    unfold valGo
    split
    · exact Nat.zero_le _
    · have h1 := stp_see (n := 0) h
      dsimp only
      split
      · have := valGo_len hd hpl (q := q) (f := f) (b := b) h1.ok
        rw [h1.s] at this
        omega
      · split
        · exact Nat.le_add_right _ _
        · split
          · have h2 := h1.trans (stp_fail (c := 4) (by decide) h1.ok.lt)
            have := valGo_len hd hpl (q := q) (f := f) (b := b) h2.ok
            rw [h2.s] at this
            omega
          · have h2 := h1.trans (stp_part (sgn := sgn) hd h1.ok)
            have := valGo_len hd hpl (q := q) (f := f) (b := b ++ (part dec sgn (r.see 0).2).1) h2.ok
            have hp := hpl (r.see 0).2
            rw [h1.s] at hp
            rw [h2.s, List.length_append] at this
            omega
theorem value_len (hd : DecOk dec) (hpl : ∀ q : XRd, (part dec sgn q).1.length ≤ q.s.length + 4) (h : r.at_ ≤ r.s.length) : (value dec sgn r).1.length ≤ (r.s.length + 3) * (r.s.length + 4) := by
  have h1 := stp_see (n := 0) (Ok.of_le h)
  unfold value
  dsimp only
  generalize decide ((r.see 0).2.e = 0 ∧ (r.see 0).1 ≠ 34 ∧ (r.see 0).1 ≠ 39) = b
  have h2 := h1.trans (stp_failIf (b := b) (c := 4) (by decide) h1.ok)
  have h3 : Stp ((r.see 0).2.failIf b 4) (((r.see 0).2.failIf b 4).on 1) := by
    by_cases he : ((r.see 0).2.failIf b 4).e = 0
    · obtain ⟨c, hs, hx⟩ := see_e ((stp_failIf (b := b) (c := 4) (by decide) h1.ok).e0 he)
      have := lt_of_at hs
      refine stp_on ?_
      rw [failIf_at, see_at, failIf_s, see_s]; omega
    · refine stp_on1 ?_ he
      rw [failIf_at, see_at, failIf_s, see_s]; exact h
  have := valGo_len hd hpl (q := (r.see 0).1) (f := r.s.length + 3) (b := []) h3.ok
  rw [(h2.trans h3).s] at this
  simpa using this
theorem attr_val (hd : DecOk dec) (hpl : ∀ q : XRd, (part dec sgn q).1.length ≤ q.s.length + 4) {l : List XPr} (h : r.at_ ≤ r.s.length) : (attr dec sgn l r).1.value.length ≤ (r.s.length + 3) * (r.s.length + 4) := by
  have h1 := stp_full h
  unfold attr
  dsimp only
  generalize (decide (r.full.2.e = 0) && l.any fun p => decide (p.pre = r.full.1.1 ∧ p.name = r.full.1.2)) = b
  have h2 := h1.trans (stp_failIf (b := b) (c := 4) (by decide) h1.ok)
  have h3 := h2.trans (stp_blanks h2.ok)
  have h4 := h3.trans (stp_wants (p := [61]) h3.ok)
  have h5 := h4.trans (stp_blanks h4.ok)
  split
  · rename_i he
    have := value_len (sgn := sgn) hd hpl (h5.ok.le he)
    rw [h5.s] at this
    exact this
  · exact Nat.zero_le _
theorem attrsGo_val (hd : DecOk dec) (hpl : ∀ q : XRd, (part dec sgn q).1.length ≤ q.s.length + 4) : ∀ {f : Nat} {l : List XPr} {r : XRd}, Ok r → r.s.length + 3 ≤ N → (∀ a ∈ l, a.value.length ≤ N * (N + 1)) → ∀ a ∈ (attrsGo dec sgn f l r).1, a.value.length ≤ N * (N + 1)
  | 0, l, r, h, hN, hl => hl
  | f + 1, l, r, h, hN, hl => by
    unfold attrsGo
    split
    · exact hl
    · have h1 := stp_blanks h
      have h2 := h1.trans (stp_see (n := 0) h1.ok)
      dsimp only
      split
      · exact hl
      · rename_i hc
        have he : (r.blanks.2.see 0).2.e = 0 := Classical.byContradiction fun hn => hc (.inl hn)
        split
        · have h3 := h2.trans (stp_fail (c := 4) (by decide) h2.ok.lt)
          exact attrsGo_val hd hpl h3.ok (by rw [h3.s]; exact hN) hl
        · have hle := h2.ok.le he
          have h3 := h2.trans (stp_attr (sgn := sgn) (l := l) hd hle).1
          refine attrsGo_val hd hpl h3.ok (by rw [h3.s]; exact hN) fun a ha => ?_
          rcases List.mem_append.1 ha with ha | ha
          · exact hl a ha
          · rw [List.mem_singleton.1 ha]
            refine Nat.le_trans (attr_val hd hpl hle) ?_
            rw [h2.s]
            exact Nat.mul_le_mul (by omega) (by omega)
theorem attsOf_val {B : Nat} {f : XFr} : ∀ {l : List XPr} {o : List XAt} {r : XRd}, (∀ a ∈ l, a.value.length ≤ B) → (∀ a ∈ o, a.value.length ≤ B) → ∀ a ∈ (attsOf f l o r).1, a.value.length ≤ B
  | [], o, r, _, ho => ho
  | p :: l, o, r, hl, ho => by
    have hp := hl p (List.mem_cons_self ..)
    have hl' : ∀ a ∈ l, a.value.length ≤ B := fun a ha => hl a (List.mem_cons_of_mem _ ha)
    have sn : ∀ x : XAt, x.value = p.value → ∀ a ∈ o ++ [x], a.value.length ≤ B := fun x hx a ha => by
      rcases List.mem_append.1 ha with ha | ha
      · exact ho a ha
      · rw [List.mem_singleton.1 ha, hx]; exact hp
    unfold attsOf
    split
    · exact attsOf_val hl' ho
    · split
      · exact attsOf_val hl' (sn _ rfl)
      · exact attsOf_val hl' (sn _ rfl)
theorem fail_out {c : Int} : (r.fail c).out = r.out := by unfold fail; split <;> rfl
theorem ab_begin {n : Txt × Txt} {l : List XPr} (h : AB N r.out) (hl : l.length ≤ N) (hv : ∀ a ∈ l, a.value.length ≤ N * (N + 1)) : AB N (begin_ n l r).2.out := by
  unfold begin_
  dsimp only
  rw [(attsOf_same).2.2.1, (space_same _ _ _).2.2.1]
  refine h.snoc (Nat.le_trans attsOf_len ?_) (fun _ => rfl) (attsOf_val hv (by simp))
  simpa using hl
theorem ab_close {f : XFr} (h : AB N r.out) : AB N (close f r).out := by
  unfold close
  dsimp only
  rw [(space_same _ _ _).2.2.1]
  exact h.snoc (Nat.zero_le _) (fun _ => rfl) (by simp)
theorem ab_flush (h : AB N r.out) : AB N r.flush.out := by
  unfold flush
  split
  · rw [fail_out]; exact h
  · split
    · exact h.snoc (Nat.zero_le _) (fun h => absurd rfl h) (by simp)
    · exact h
theorem ab_element (hd : DecOk dec) (hpl : ∀ q : XRd, (part dec sgn q).1.length ≤ q.s.length + 4) (hl : r.at_ + 1 ≤ r.s.length) (h : AB N r.out) (hN : r.s.length + 3 ≤ N) : AB N (element dec sgn r).out := by
  unfold element
  dsimp only
  have hon := stp_on (r := r) (n := 1) hl
  have hq : (r.on 1).at_ ≤ (r.on 1).s.length := hl
  generalize r.on 1 = q at *
  split
  · rw [fail_out, hon.out]; exact h
  have h1 := stp_full hq
  have h2 := h1.trans (stp_attrs (dec := dec) (sgn := sgn) hd h1.ok)
  have hal : (attrs dec sgn q.full.2).1.length ≤ N := by
    refine Nat.le_trans attrsGo_len ?_
    rw [h1.s, hon.s]
    simpa using hN
  have hav : ∀ a ∈ (attrs dec sgn q.full.2).1, a.value.length ≤ N * (N + 1) := by
    have hsn : q.full.2.s.length + 3 ≤ N := by rw [h1.s, hon.s]; exact hN
    refine attrsGo_val (N := N) hd hpl h1.ok hsn (fun a ha => by cases ha)
  split
  · rw [h2.out, hon.out]; exact h
  have h3 := stp_see (n := 0) h2.ok
  have h4 : Stp (attrs dec sgn q.full.2).2 (if ((attrs dec sgn q.full.2).2.see 0).1 = 47 then ((attrs dec sgn q.full.2).2.see 0).2.on 1 else ((attrs dec sgn q.full.2).2.see 0).2) := by
    split
    · rename_i hc
      obtain ⟨c, hs, hx⟩ := see_c (r := (attrs dec sgn q.full.2).2) (n := 0) (by rw [hc]; decide)
      have := lt_of_at hs
      rw [hx]
      exact stp_on (by omega)
    · exact h3
  have h5 := hon.trans (h2.trans (h4.trans (stp_wants (p := [62]) h4.ok)))
  generalize wants [62] (if ((attrs dec sgn q.full.2).2.see 0).1 = 47 then ((attrs dec sgn q.full.2).2.see 0).2.on 1 else ((attrs dec sgn q.full.2).2.see 0).2) = z at *
  generalize ((attrs dec sgn q.full.2).2.see 0).1 = x at *
  have hz : AB N z.out := by rw [h5.out]; exact h
  split
  · exact hz
  have hb := ab_begin (n := q.full.1) (l := (attrs dec sgn q.full.2).1) hz hal hav
  split
  · exact ab_close hb
  · exact hb
theorem ab_end (hl : r.at_ + 2 ≤ r.s.length) (h : AB N r.out) : AB N (end_ r).out := by
  unfold end_
  dsimp only
  have hon := stp_on (r := r) (n := 2) hl
  have hq : (r.on 2).at_ ≤ (r.on 2).s.length := hl
  generalize (r.on 2).op.getLastD default = f
  generalize r.on 2 = q at *
  have h1 := stp_full hq
  generalize decide (q.full.2.e = 0 ∧ ¬ (q.full.1.1 = f.pre ∧ q.full.1.2 = f.name)) = b at *
  have h3 := h1.trans (stp_failIf (b := b) (c := 4) (by decide) h1.ok)
  have h4 := h3.trans (stp_blanks h3.ok)
  have h5 := hon.trans (h4.trans (stp_wants (p := [62]) h4.ok))
  generalize wants [62] (q.full.2.failIf b 4).blanks.2 = w at *
  have hz : AB N w.out := by rw [h5.out]; exact h
  split
  · exact ab_close hz
  · exact hz
theorem ab_content (hd : DecOk dec) (hpl : ∀ q : XRd, (part dec sgn q).1.length ≤ q.s.length + 4) (hok : Ok r) (h : AB N r.out) (hN : r.s.length + 3 ≤ N) : AB N (content dec sgn r).out := by
  unfold content
  dsimp only
  have h1 := stp_see (n := 0) hok
  split
  · show AB N (part dec sgn (r.see 0).2).2.out
    rw [(stp_part hd h1.ok).out, h1.out]; exact h
  rename_i hc
  have hc60 := Classical.not_not.1 hc
  obtain ⟨c, hs, hx⟩ := see_c (r := r) (n := 0) (by rw [hc60]; decide)
  rw [hx]
  dsimp only
  have hy := stp_see (n := 1) hok
  split
  · rw [hy.out]; exact h
  rename_i hc
  obtain ⟨d, hs1, hx1⟩ := see_e (Classical.not_not.1 hc)
  rw [hx1]
  dsimp only
  have hlt := lt_of_at hs1
  have hz := stp_see (n := 2) hok
  split
  · rename_i hc
    obtain ⟨c2, hs2, hx2⟩ := see_c (r := r) (n := 2) (by rw [hc.2]; decide)
    rw [hx2]
    have h2 := stp_wants (p := [60, 33, 91, 67, 68, 65, 84, 65, 91]) hok
    have h3 := h2.trans (stp_til (p := [93, 93, 62]) hd h2.ok)
    show AB N (til dec [93, 93, 62] (wants [60, 33, 91, 67, 68, 65, 84, 65, 91] r)).2.out
    rw [h3.out]; exact h
  split
  · rw [(hz.trans (stp_comment hd hz.ok)).out]; exact h
  obtain ⟨f1, f2, f3, f4, f5⟩ := flush_same r
  split
  · exact ab_end (by rw [f1, f2]; omega) (ab_flush h)
  split
  · exact ab_element hd hpl (by rw [f1, f2]; omega) (ab_flush h) (by rw [f2]; exact hN)
  · rw [fail_out]; exact h
theorem ab_contents (hd : DecOk dec) (hpl : ∀ q : XRd, (part dec sgn q).1.length ≤ q.s.length + 4) : ∀ {f : Nat} {r : XRd}, Ok r → AB N r.out → r.s.length + 3 ≤ N → AB N (contents dec sgn f r).out ∧ Ok (contents dec sgn f r)
  | 0, r, h, ha, _ => ⟨ha, h⟩
  | f + 1, r, h, ha, hN => by
    unfold contents
    split
    · have h1 := (bnd_content (sgn := sgn) hd hpl h).1
      exact ab_contents hd hpl h1.ok (ab_content hd hpl h ha hN) (by rw [h1.s]; exact hN)
    · exact ⟨ha, h⟩
theorem tokens_ab (hd : DecOk dec) (hpl : ∀ q : XRd, (part dec sgn q).1.length ≤ q.s.length + 4) {b : Txt} : AB (b.length + 3) (tokens dec sgn b).1 := by
  unfold tokens
  split
  · intro t ht; cases ht
  dsimp only
  have h1 := stp_front (dec := dec) (r := ⟨b, 0, 0, [], [], []⟩) hd (Nat.zero_le _)
  generalize front dec ⟨b, 0, 0, [], [], []⟩ = r at *
  have h2 := h1.trans (stp_see (n := 0) h1.ok)
  generalize decide ((r.see 0).2.e = 0 ∧ (r.see 0).1 ≠ 60) = b1
  have h3 := h2.trans (stp_failIf (b := b1) (c := 4) (by decide) h2.ok)
  generalize (r.see 0).2.failIf b1 4 = q1 at *
  have h4 := h3.trans (stp_see (n := 1) h3.ok)
  generalize hb2 : (decide ((q1.see 1).2.e = 0) && !begs (q1.see 1).1) = b2
  have h5 := h4.trans (stp_failIf (b := b2) (c := 4) (by decide) h4.ok)
  generalize hq2 : (q1.see 1).2.failIf b2 4 = q2 at *
  have hsee : q2.e = 0 → q2.at_ + 1 ≤ q2.s.length := fun he => by
    have := (stp_failIf (b := b2) (c := 4) (by decide) h4.ok).e0 (by rw [hq2]; exact he)
    obtain ⟨c, hc, _⟩ := see_e this
    have hlt := lt_of_at hc
    have e1 : q2.at_ = q1.at_ := by rw [← hq2, failIf_at, see_at]
    have e2 : q2.s = q1.s := by rw [← hq2, failIf_s, see_s]
    rw [e1, e2]; omega
  have h0 : AB (b.length + 3) q2.out := by rw [h5.out]; intro t ht; cases ht
  have h6 : AB (b.length + 3) (if q2.e = 0 then element dec sgn q2 else q2).out ∧ Ok (if q2.e = 0 then element dec sgn q2 else q2) ∧ (if q2.e = 0 then element dec sgn q2 else q2).s = b := by
    split
    · rename_i he
      have hb := (bnd_element (sgn := sgn) hd (hsee he)).1
      exact ⟨ab_element hd hpl (hsee he) h0 (by rw [h5.s]; exact Nat.le_refl _), hb.ok, by rw [hb.s, h5.s]⟩
    · exact ⟨h0, h5.ok, h5.s⟩
  generalize (if q2.e = 0 then element dec sgn q2 else q2) = q3 at *
  obtain ⟨g1, g2, g3⟩ := h6
  obtain ⟨g4, g5⟩ := ab_contents (sgn := sgn) (f := b.length + 2) hd hpl g2 g1 (by rw [g3]; exact Nat.le_refl _)
  have h7 := stp_misc (f := b.length + 2) hd g5
  generalize misc dec (b.length + 2) (contents dec sgn (b.length + 2) q3) = q4 at *
  have h8 : (q4.failIf (decide (q4.e = 0 ∧ q4.at_ < q4.s.length)) 4).out = q4.out := (stp_failIf (by decide) h7.ok).out
  split
  · intro t ht; cases ht
  · show AB _ (q4.failIf (decide (q4.e = 0 ∧ q4.at_ < q4.s.length)) 4).out
    rw [h8, h7.out]; exact g4
end Go.Ez.XRd
namespace Go.Proofs.YtlflpbflpcmckaaGreatDoor
open Go Go.Ez Go.RowKit Go.Lib
set_option linter.unusedSimpArgs false
set_option linter.unusedVariables false
theorem tokX_ab (s : Txt) : ∀ t ∈ (tokX s).1, t.attrs.length ≤ s.length + 3 ∧ (t.kind ≠ 3 → t.text = []) ∧ ∀ a ∈ t.attrs, a.value.length ≤ (s.length + 3) * (s.length + 3 + 1) := XRd.tokens_ab (dec := decX) (sgn := signS) decX_ok fun q => part_len
section
variable {w0 W W' : World} {G : Nat → Prop} {l R R1 R2 : List As} {RR : Value → World → Prop} {s : Txt} {v : Value} {ts : List XTk} {tk : XTk} {i : Nat} {K : Value → Prop} {k0 : IntKind}
theorem tk_ov {ov : List (XTk × Value)} (hov : ov.map Prod.fst = ts) (hi : ts[i]? = some tk) : ∃ va, ov[i]? = some (tk, va) := by
  rw [← hov, List.getElem?_map] at hi
  cases hx : ov[i]? with
  | none => rw [hx] at hi; cases hi
  | some p => rw [hx] at hi; cases hi; exact ⟨p.2, rfl⟩
theorem x_tkRow {f off : Nat} {ty : TypeId} {z u : Value} {n : Nat} {ov : List (XTk × Value)} [F : Fld Tryz.prog 88 f off] [T : Ty1 Tryz.prog ty z] (hs : Sl W 5 v n (rcells tcell ov)) (hn : n = ov.length) (hov : ov.map Prod.fst = ts) (hi : ts[i]? = some tk) (ho : off < 5) (hu : ∀ va, (tcell (tk, va))[off]? = some u) (k : K u) :
    RunA Tryz.prog (Instr.indexAt 54 v (.int k0 (i : Int))) fun p => RunA Tryz.prog (Instr.fieldAt 88 p f) fun q => RunW Tryz.prog (Instr.loadAt ty q) W K := by
  obtain ⟨va, hva⟩ := tk_ov hov hi
  have hil := (List.getElem?_eq_some_iff.1 hva).1
  exact x_fld hs (by omega) ho (by rw [rc_get tcell_len hva ho]; exact hu va) k
theorem x_tk {f off : Nat} {ty : TypeId} {z u : Value} [F : Fld Tryz.prog 88 f off] [T : Ty1 Tryz.prog ty z] (ht : Toks W v ts) (hi : ts[i]? = some tk) (ho : off < 5) (hu : ∀ va, (tcell (tk, va))[off]? = some u) (k : K u) :
    RunA Tryz.prog (Instr.indexAt 54 v (.int k0 (i : Int))) fun p => RunA Tryz.prog (Instr.fieldAt 88 p f) fun q => RunW Tryz.prog (Instr.loadAt ty q) W K := by
  obtain ⟨ov, h1, h2, _⟩ := ht
  exact x_tkRow h2 rfl h1 hi ho hu k
theorem tk_len (ht : Toks W v ts) : ∃ cs, Sl W 5 v ts.length cs := by
  obtain ⟨ov, h1, h2, _⟩ := ht
  exact ⟨_, by rw [← h1, List.length_map]; exact h2⟩
end
theorem x_srcl {P : Program} {K : Value → Prop} {S' : World → Prop} {w1 : World} {α : Type} {f : α → List Value} {sz : Nat} (hf : ∀ a, (f a).length = sz) {L : List α} {i n : Nat} {a : α} {t e : TypeId} {bytes : Nat} {z v : Value} {zs : List Value} {k0 : IntKind} [S : SlT P t e sz bytes z] [T : TyS P e sz zs] (hs : Sl w1 sz v n (rcells f L)) (hS : ∀ w, S' w → Sl w sz v n (rcells f L)) (hn : n = L.length) (hi : L[i]? = some a) (k : K (.agg (f a).toArray)) :
    RunA P (Instr.indexAt t v (.int k0 (i : Int))) fun q => RunS P S' (Instr.loadAt e q) K := by
  have hpos := S.el.pos
  have hil := (List.getElem?_eq_some_iff.1 hi).1
  have hg : ∀ j u, (f a)[j]? = some u → (rcells f L)[i * sz + j]? = some u := fun j u hu => by
    have hj : j < sz := by have := (List.getElem?_eq_some_iff.1 hu).1; rw [hf] at this; exact this
    rw [rc_get hf hi hj]; exact hu
  obtain ⟨ao, cap, rfl, hnc, hl, hc, _⟩ := hs
  have h0 : 0 < (f a).length := by rw [hf]; omega
  obtain ⟨b, o, rfl, _⟩ := hc _ _ (hg 0 _ (List.getElem?_eq_getElem h0))
  refine a_indexAt S.el.und S.el.size (by omega) (by omega) ?_
  rw [Int.toNat_natCast]
  refine RunS.of (v := .agg (f a).toArray) (fun w hw => ?_) k
  obtain ⟨ao', cap', e1, _, _, hc', _⟩ := hS w hw
  cases e1
  have hx : ∀ j u, (f a)[j]? = some u → w.cell? ⟨b, o + i * sz + j, none⟩ = some u := fun j u hu => by
    obtain ⟨b', o', e2, e3⟩ := hc' _ u (hg j u hu)
    cases e2
    rw [Nat.add_assoc]
    exact e3
  obtain ⟨v, h1, h2⟩ := x_lds (P := P) (W := w) (e := e) (b := b) (o := o + i * sz) (sz := sz) (zs := zs) (cs := f a) (K := fun v => v = .agg (f a).toArray) (hf a) hx rfl
  rw [h1, h2]
end Go.Proofs.YtlflpbflpcmckaaGreatDoor
namespace Go.Ez
open Go Go.Proofs Go.RowKit
set_option linter.unusedSimpArgs false
set_option linter.unusedVariables false
section
variable (P : Program) (w0 : World) (G : Nat → Prop)
/-- what is asked of a yield: told the i-th, with a value that stands on H i, the taker's own goes from C i to C (i + 1); or it stops, at D (i + 1) -/
def YlV (yv : Value) (n : Nat) (X : Nat → Value → List Value) (H : Nat → Value → As) (C D : Nat → As) : Prop :=
  ∀ i, i < n → ∀ (va : Value) (I : List As) (W : World) (K : Value → World → Prop), Cel1 va → St w0 G (Ky va (H i) :: Ky i C :: I) W →
    (∀ W', St w0 G (Ky (i + 1) C :: I) W' → K (.bool true) W') → (∀ W', St w0 G (Ky (i + 1) D :: I) W' → K (.bool false) W') → CallV P yv (X i va).toArray W K
/-- f tells n; A is what it stands on -/
def ItV (f : Value) (n : Nat) (X : Nat → Value → List Value) (H : Nat → Value → As) (A : Value → As) : Prop :=
  ∃ gf lb, f = .func (.func gf) #[] lb ∧ Enters P gf ∧ ∀ (yv : Value) (C D : Nat → As) (I : List As) (W : World) (R : Value → World → Prop), Cel1 yv → YlV P w0 G yv n X H C D → St w0 G (Ky 0 C :: Ky f A :: I) W →
    (∀ W', St w0 G (Ky n C :: Ky f A :: I) W' → R (.tuple #[]) W') → (∀ i W', i ≤ n → St w0 G (Ky i D :: Ky f A :: I) W' → R (.tuple #[]) W') → CallF P gf (#[yv] ++ lb) W R
end
section
variable {P : Program} {w0 W : World} {G : Nat → Prop} {l R : List As}
/-- a range over such an iterator -/
theorem rngV {np nl n : Nat} {asg : Nat → FnN nl → FnN np} {bdy : Nat → (World → Prop) → (Code → World → Prop) → FnN nl} {f : Value} {kdone : Nat → World → Prop} {kstop : Nat → Code → World → Prop} {X : Nat → Value → List Value} {H : Nat → Value → As} {A : Value → As}
    (C : Nat → As) (Dd : Code → Nat → As) (hI : ItV P w0 G f n X H A) (hx : ∀ i va, (X i va).length = np) (h : St w0 G (Ky 0 C :: Ky f A :: l) W)
    (hbody : ∀ (i : Nat), i < n → ∀ (va : Value) (ll : Nat) (rec : LoopState → Option Code → Loop) (I : List As) (W : World) (kn : World → Prop) (ks : Code → World → Prop), Cel1 va → St w0 G (Ky va (H i) :: Ky ll (Ob (.loop (rec .ready none))) :: Ky i C :: I) W →
      (∀ W', St w0 G (Ky ll (Ob (.loop (rec .busy none))) :: Ky (i + 1) C :: I) W' → kn W') → (∀ c W', St w0 G (Ky ll (Ob (.loop (rec .busy none))) :: Ky (i + 1) (Dd c) :: I) W' → ks c W') →
      appN np (asg ll (lamN nl fun vs W2 => W2.heap[ll]? = some (.loop (rec .ready none)) ∧ appN nl (bdy ll kn ks) vs (W2.putObj ll (.loop (rec .busy none))))) (X i va) W)
    (hdone : ∀ D W', St w0 G (Ky D (Ob (.deferred (some []))) :: Ky n C :: Ky f A :: l) W' → kdone D W')
    (hstop : ∀ D c i W', i ≤ n → St w0 G (Ky D (Ob (.deferred (some []))) :: Ky i (Dd c) :: Ky f A :: l) W' → kstop D c W') :
    rngP P none np nl asg bdy f W kdone kstop := by
  obtain ⟨gf, lb, rfl, hen, hrun⟩ := hI
  refine ⟨(fun l0 hl0 => nomatch hl0), gf, lb, rfl, hen, ?_⟩
  intro ll D rec W1 hll hlt hD hW1 hL hDD hround
  obtain ⟨hD1, hD2⟩ := hD rfl
  have hDD := hDD rfl
  -- the two new blocks
  have h1 : St w0 G (As.all True [Ky ll (Ob (.loop (rec .ready none))), Ky D (Ob (.deferred (some [])))] :: Ky 0 C :: Ky (.func (.func gf) #[] lb) A :: l) W1 := by
    refine h.new (F := fun x => x = ll ∨ x = D) hW1 ⟨trivial, fun x => x = ll, fun x => x = D, ⟨fun _ => Iff.rfl, hL⟩, ⟨fun x => x = D, fun _ => False, ⟨fun _ => Iff.rfl, hDD⟩, fun _ h => h, fun _ _ h => h, fun _ => by simp⟩, fun b h1 h2 => by omega, fun _ => Iff.rfl⟩ ?_
    rintro b (rfl | rfl) <;> omega
  have h2 : St w0 G (Ky ll (Ob (.loop (rec .ready none))) :: Ky D (Ob (.deferred (some []))) :: Ky 0 C :: Ky (.func (.func gf) #[] lb) A :: l) W1 := h1.openA.2
  let C' : Nat → As := fun i => As.all True [Ky ll (Ob (.loop (rec .ready none))), Ky i C]
  let D' : Nat → As := fun i => As.ex fun c : Code => As.all True [Ky ll (Ob (.loop (rec .done (some c)))), Ky i (Dd c)]
  have h3 : St w0 G (Ky 0 C' :: Ky (.func (.func gf) #[] lb) A :: Ky D (Ob (.deferred (some []))) :: l) W1 := by
    refine St.shutA trivial (?_ : St w0 G (Ky ll (Ob (.loop (rec .ready none))) :: Ky 0 C :: Ky (.func (.func gf) #[] lb) A :: Ky D (Ob (.deferred (some []))) :: l) W1)
    obtain ⟨F, hF, hG⟩ := h2.own
    exact { h2 with own := ⟨F, sepL_mono (fun F w h => sepL_mono (fun F w h => sepL_swap h) (sepL_swap h)) hF, hG⟩ }
  refine hrun (.func (.yield ll) #[] #[]) C' D' (Ky D (Ob (.deferred (some []))) :: l) W1 _ ⟨rfl⟩ ?_ h3 ?_ ?_
  · intro i hin va I W K ova h kt kf
    have h4 : St w0 G (Ky ll (Ob (.loop (rec .ready none))) :: Ky i C :: Ky va (H i) :: I) W := (St.openA (show St w0 G (As.all True [Ky ll (Ob (.loop (rec .ready none))), Ky i C] :: Ky va (H i) :: I) W from h.swap)).2
    have h5 : St w0 G (Ky va (H i) :: Ky ll (Ob (.loop (rec .ready none))) :: Ky i C :: I) W := by
      obtain ⟨F, hF, hG⟩ := h4.own
      exact { h4 with own := ⟨F, sepL_swap (sepL_mono (fun F w h => sepL_swap h) hF), hG⟩ }
    refine hround (X i va) W K (hx i va) (h4.ob (b := ll)) ?_
    refine hbody i hin va ll rec I W _ _ ova h5 (fun W' h5 => ?_) fun c W' h5 => ?_
    · refine ⟨h5.ob (b := ll), kt _ ?_⟩
      exact St.shutA (L := [Ky ll (Ob (.loop (rec .ready none))), Ky (i + 1) C]) trivial (h5.putO (b := ll) (o := .loop (rec .busy none)) (.loop (rec .ready none)))
    · refine ⟨h5.ob (b := ll), kf _ ?_⟩
      exact St.shutE c (St.shutA (L := [Ky ll (Ob (.loop (rec .done (some c)))), Ky (i + 1) (Dd c)]) trivial (h5.putO (b := ll) (o := .loop (rec .busy none)) (.loop (rec .done (some c)))))
  · intro W' h4
    have h5 : St w0 G (Ky ll (Ob (.loop (rec .ready none))) :: Ky n C :: Ky (.func (.func gf) #[] lb) A :: Ky D (Ob (.deferred (some []))) :: l) W' := (St.openA (show St w0 G (As.all True [Ky ll (Ob (.loop (rec .ready none))), Ky n C] :: _) W' from h4)).2
    refine Or.inl ⟨h5.ob (b := ll), hdone D _ ?_⟩
    exact (h5.putO (b := ll) (o := .loop (rec .ready none)) (.loop (rec .exhausted none))).to
  · intro i W' hi h4
    obtain ⟨c, h4⟩ := St.openE (show St w0 G (As.ex (fun c : Code => As.all True [Ky ll (Ob (.loop (rec .done (some c)))), Ky i (Dd c)]) :: _) W' from h4)
    have h5 : St w0 G (Ky ll (Ob (.loop (rec .done (some c)))) :: Ky i (Dd c) :: Ky (.func (.func gf) #[] lb) A :: Ky D (Ob (.deferred (some []))) :: l) W' := (St.openA h4).2
    refine Or.inr ⟨c, h5.ob (b := ll), hstop D c i _ hi ?_⟩
    exact (h5.putO (b := ll) (o := .loop (rec .done (some c))) (.loop (rec .exhausted (some c)))).to
end
end Go.Ez
namespace Go.Ez
open Go
/-- how much deeper a token leads -/
def kd (k : Int) : Int := if k = 1 then 1 else if k = 2 then -1 else 0
def txOf (t : XTk) : Txt := if t.kind = 3 then t.text else []
/-- the texts up to the end of what began; how many tokens stand ahead of that end -/
def inGo : List XTk → Int → Txt → Txt × Option Nat
  | [], _, b => (b, none)
  | t :: l, d, b => if d + kd t.kind = 0 then (b ++ txOf t, some 0) else ((inGo l (d + kd t.kind) (b ++ txOf t)).1, (inGo l (d + kd t.kind) (b ++ txOf t)).2.map (· + 1))
def innerX (ts : List XTk) (at_ : Int) : Txt × Int :=
  if at_ < 0 ∨ (ts.length : Int) ≤ at_ then ([], at_) else
  match ts[at_.toNat]? with
  | none => ([], at_)
  | some t => if t.kind ≠ 1 then ([], at_) else
    ((inGo (ts.drop at_.toNat) 0 []).1, match (inGo (ts.drop at_.toNat) 0 []).2 with | some j => at_ + j + 1 | none => ts.length)
theorem inGo_step {t : XTk} {l : List XTk} {d : Int} {b : Txt} (h : d + kd t.kind ≠ 0) {i : Nat} {x : Txt × Option Nat} (hx : x = ((inGo (t :: l) d b).1, (inGo (t :: l) d b).2.map (· + i))) : x = ((inGo l (d + kd t.kind) (b ++ txOf t)).1, (inGo l (d + kd t.kind) (b ++ txOf t)).2.map (· + (i + 1))) := by
  subst hx
  simp only [inGo, if_neg h, Option.map_map]
  refine Prod.ext rfl ?_
  dsimp only
  cases (inGo l (d + kd t.kind) (b ++ txOf t)).2 with
  | none => rfl
  | some j => simp only [Option.map_some, Function.comp]; congr 1; omega
theorem kd_le (k : Int) : -1 ≤ kd k ∧ kd k ≤ 1 := by unfold kd; split; omega; split <;> omega
end Go.Ez
namespace Go.Proofs.YtlflpbflpcmckaaGreatDoor
open Go Go.Ez Go.RowKit Go.Lib
set_option linter.unusedSimpArgs false
set_option linter.unusedVariables false
section
variable {w0 W W' : World} {G : Nat → Prop} {l R R1 R2 : List As} {RR : Value → World → Prop} {s : Txt} {v va vb : Value} {ts us : List XTk} {t u : XTk} {i n b : Nat} {K : Value → Prop} {k0 : IntKind} {o : List XAt}
theorem atc_one (a : XAt) : ∀ c ∈ atc a, c.oneCell' = true := by
  intro c hc
  simp only [List.mem_cons, List.not_mem_nil, or_false] at hc
  rcases hc with rfl | rfl | rfl <;> rfl
theorem clone_spec (hs : Sl w0 3 va o.length (rcells atc o)) (ho : o.length ≤ 1000000) (h : St w0 G0 l W) (k : ∀ v' W', Cel1 v' → St w0 G0 (Ky v' (AtS o) :: l) W' → RR v' W') : CallF Tryz.prog 136 #[va] W RR := by
  refine sh136_calls ?_
  unfold sh136
  refine w_nilSE Tryz.underlying86 hs fun bb hbb => ?_
  cases bb with
  | true =>
    obtain ⟨rfl, h0⟩ := hbb rfl
    have : o = [] := List.eq_nil_of_length_eq_zero h0
    subst this
    refine ift ?_
    exact k _ W ⟨rfl⟩ h.nilOw
  | false =>
    refine iff' ?_
    refine h.lit fun uu W ou h => ?_
    refine h.app (v := uu) (hs.below h.low) (rc_one atc_one o) (by unfold maxLen; omega) (by omega) fun va' W o' h _ => ?_
    rw [List.nil_append, Nat.zero_add] at h
    exact k _ W o' h
abbrev eachFn (b : Nat) : Value := .func (.func 135) #[] #[.pointer (some ⟨b, 0, none⟩)]
/-- what Each's answer stands on -/
def ItE (b : Nat) (v : Value) (_ : Value) : As := Ky b (Ob (.cells [v].toArray 54 (0, 0)))
def eachX (ts : List XTk) (i : Nat) (va : Value) : List Value := [nV .i64 i, .agg (tcell (ts.getD i default, va)).toArray]
def eachH (ts : List XTk) (i : Nat) : Value → As := AtS (ts.getD i default).attrs
theorem each_itr (ht : Toks w0 v ts) (hn : ts.length ≤ 1000000) (ha : ∀ t ∈ ts, t.attrs.length ≤ 1000000) : ItV Tryz.prog w0 G0 (eachFn b) ts.length (eachX ts) (eachH ts) (ItE b v) := by
  obtain ⟨ov, ho, hs, hat⟩ := ht
  have l1 : ov.length = ts.length := by rw [← ho, List.length_map]
  refine ⟨135, _, rfl, hentD _ (by kernel_rfl), fun yv C D I W RR oy hY h hd hst => ?_⟩
  show CallF Tryz.prog 135 #[yv, .pointer (some ⟨b, 0, none⟩)] W RR
  refine sh135_calls ?_
  unfold sh135
  replace h : St w0 G0 (Ky 0 C :: Ky b (Ob (.cells [v].toArray 54 (0, 0))) :: I) W := h
  refine h.load ?_
  refine x_lenS hs ?_
  refine lpx (α := Nat) (fun i => [nV .i64 i]) (fun i W => i ≤ ts.length ∧ St w0 G0 (Ky i C :: Ky b (Ob (.cells [v].toArray 54 (0, 0))) :: I) W) (fun i => ts.length - i) 0 (fun _ => rfl) rfl ⟨Nat.zero_le _, h⟩ ?_
  clear h
  rintro next i W hnext ⟨hi, h⟩
  refine app1 ?_
  refine a_lss (ifd (fun hc => ?_) fun hc => ?_)
  · have hil : i < ts.length := by omega
    have ga : ts[i]? = some ts[i] := List.getElem?_eq_getElem hil
    have hal := ha _ (List.getElem_mem hil)
    have hgd : ts.getD i default = ts[i] := by rw [List.getD_eq_getElem?_getD, ga]; rfl
    generalize ts[i] = t at ga hal hgd
    obtain ⟨xa, hxa⟩ := tk_ov ho ga
    obtain ⟨hx1, hx3⟩ := hat _ (List.mem_of_getElem? hxa)
    replace hx3 : Sl w0 3 xa t.attrs.length (rcells atc t.attrs) := hx3
    haveI : Cel1 xa := ⟨hx1⟩
    refine x_rcl tcell_len (hs.below h.low) rfl hxa ?_
    refine h.allocS fun t4 W h => ?_
    refine h.storeS (cs' := tcell (t, xa)) fun W h => ?_
    refine a_fld0 (h.load ?_)
    refine clone_spec hx3 hal h fun vc W oc h => ?_
    refine a_fld0 (h.store fun W h => ?_)
    refine h.loadS ?_
    have hy := hY i hil vc (Ky b (Ob (.cells [v].toArray 54 (0, 0))) :: I) W
    unfold eachX eachH at hy
    rw [hgd] at hy
    refine hy _ oc h.to (fun W h => ?_) fun W h => ?_
    · refine a_not (iff' ?_)
      refine a_add64 (by omega) (by omega) ⟨rfl, rfl, rfl, ?_⟩
      rw [show ((i : Int) + 1) = ((i + 1 : Nat) : Int) by push_cast; rfl]
      exact hnext (i + 1) W (by omega) ⟨by omega, h⟩
    · refine a_not (ift ?_)
      exact hst (i + 1) W (by omega) h
  · have hil : i = ts.length := by omega
    subst hil
    exact hd W h
theorem each_spec (ht : Toks w0 v ts) (h : St w0 G0 l W) (k : ∀ b W', St w0 G0 (Ky (eachFn b) (ItE b v) :: l) W' → RR (eachFn b) W') : CallF Tryz.prog 114 #[v] W RR := by
  refine sh114_calls ?_
  unfold sh114
  obtain ⟨ov, ho, hs, hat⟩ := ht
  have oc : Cel1 v := Cel1.of_sl hs
  refine h.boxV fun b W h => ?_
  refine v_func ?_
  exact k b W h
/-- tokens from a place on -/
theorem Toks.drop {q : Nat} (ht : Toks W v ts) (hq : q ≤ ts.length) {k1 : IntKind} (k : ∀ v', Toks W v' (ts.drop q) → K v') : RunA Tryz.prog (Instr.sliceAt 54 v (some (.int k1 (q : Int))) none none) K := by
  obtain ⟨ov, ho, hs, hat⟩ := ht
  have l1 : ov.length = ts.length := by rw [← ho, List.length_map]
  refine a_sliceL (SlT.el (P := Tryz.prog) (t := 54)) hs (by omega) (by omega) fun v' hv' => k v' ⟨ov.drop q, by rw [List.map_drop, ho], ?_, fun p hp => hat p (List.mem_of_mem_drop hp)⟩
  rw [Int.toNat_natCast, ← rc_drop tcell_len] at hv'
  rw [List.length_drop]
  exact hv'
abbrev InL (t3 t4 t5 t6 t7 : Nat) (at_ : Int) (s : Txt) (j d : Int) (b : Txt) (R : List As) : List As := Ky t3 (Ob (.cells [(.int .i64 at_ : Value)].toArray 3 (0, 0))) :: Ky t4 (Ob (.cells [strV s].toArray 9 (0, 0))) :: Ky t5 (Ob (.cells [(.int .i64 j : Value)].toArray 3 (0, 0))) :: Ky t6 (Bu b) :: Ky t7 (Ob (.cells [(.int .i64 d : Value)].toArray 3 (0, 0))) :: R
abbrev InC (t3 t4 t5 t6 t7 : Nat) (at_ : Int) (us : List XTk) (i : Nat) : As := As.ex fun x : Int × Txt => As.all (inGo us 0 [] = ((inGo (us.drop i) x.1 x.2).1, (inGo (us.drop i) x.1 x.2).2.map (· + i)) ∧ -(i : Int) ≤ x.1 ∧ x.1 ≤ i ∧ x.2.length ≤ i * 1000000) (InL t3 t4 t5 t6 t7 at_ [] 0 x.1 x.2 [])
abbrev InD (t3 t4 t5 t6 t7 : Nat) (at_ : Int) (us : List XTk) (c : Code) (_ : Nat) : As := As.ex fun x : Txt × Nat => As.all (c = .ret ∧ inGo us 0 [] = (x.1, some x.2)) [Ky t4 (Ob (.cells [strV x.1].toArray 9 (0, 0))), Ky t5 (Ob (.cells [(.int .i64 (at_ + x.2 + 1) : Value)].toArray 3 (0, 0)))]
theorem inner_spec (ht : Toks w0 v ts) (hn : ts.length ≤ 90000) (ha : ∀ t ∈ ts, t.attrs.length ≤ 1000000) (htx : ∀ t ∈ ts, t.text.length ≤ 1000000) {at_ : Int} (h : St w0 G0 l W) (k : ∀ W', St w0 G0 l W' → RR (.tuple #[strV (innerX ts at_).1, .int .i64 (innerX ts at_).2]) W') : CallF Tryz.prog 86 #[v, .int .i64 at_] W RR := by
  refine sh86_calls ?_
  unfold sh86
  obtain ⟨cs, hcs⟩ := tk_len ht
  refine h.boxV fun t3 W h => ?_
  refine h.alloc fun t4 W h => ?_
  refine h.alloc fun t5 W h => ?_
  have out : innerX ts at_ = ([], at_) → ∀ W, St w0 G0 (Ky t5 (Ob (.cells [(.int .i64 0 : Value)].toArray 3 (0, 0))) :: Ky t4 (Ob (.cells [strV []].toArray 9 (0, 0))) :: Ky t3 (Ob (.cells [(.int .i64 at_ : Value)].toArray 3 (0, 0))) :: l) W → RR (.tuple #[strV [], .int .i64 at_]) W := fun e W h => by
    rw [e] at k
    exact k _ h.to
  have early : innerX ts at_ = ([], at_) → ∀ W, St w0 G0 (Ky t5 (Ob (.cells [(.int .i64 0 : Value)].toArray 3 (0, 0))) :: Ky t4 (Ob (.cells [strV []].toArray 9 (0, 0))) :: Ky t3 (Ob (.cells [(.int .i64 at_ : Value)].toArray 3 (0, 0))) :: l) W →
      drw (fun S w => RunS Tryz.prog S (Instr.loadAt 3 (.pointer (some ⟨t3, 0, none⟩))) fun t26 => RunU Tryz.prog (Instr.storeAt 9 (.pointer (some ⟨t4, 0, none⟩)) (.string ⟨#[]⟩)) w fun w => S w ∧ (RunU Tryz.prog (Instr.storeAt 3 (.pointer (some ⟨t5, 0, none⟩)) t26) w fun w => RunW Tryz.prog (Instr.loadAt 9 (.pointer (some ⟨t4, 0, none⟩))) w fun x => RunW Tryz.prog (Instr.loadAt 3 (.pointer (some ⟨t5, 0, none⟩))) w fun y => RR (.tuple #[x, y]) w)) W := fun e W h => by
    rw [e] at k
    refine ⟨St w0 G0 [Ky t3 (Ob (.cells [(.int .i64 at_ : Value)].toArray 3 (0, 0)))], h.drew.to, ?_⟩
    replace h := h.drew
    refine ss_load ?_
    refine h.store fun W h => ⟨h.to, ?_⟩
    refine h.store fun W h => ?_
    refine h.load (h.load ?_)
    exact k _ h.to
  refine h.load (a_lss (ifd (fun hc => ?_) fun h1 => ?_))
  · exact early (by unfold innerX; rw [if_pos (.inl hc)]) W h
  refine h.load (x_lenS hcs (a_geq (ifd (fun hc => ?_) fun h2 => ?_)))
  · exact early (by unfold innerX; rw [if_pos (.inr hc)]) W h
  obtain ⟨q, rfl⟩ : ∃ q : Nat, at_ = (q : Int) := ⟨at_.toNat, by omega⟩
  have hq : q < ts.length := by omega
  have ga : ts[q]? = some ts[q] := List.getElem?_eq_getElem hq
  generalize ts[q] = t at ga
  refine h.load (x_tk (u := .int .i64 t.kind) (ht.below h.low) ga (by decide) (fun va => rfl) (w_neq (ifd (fun hc => ?_) fun h3 => ?_)))
  · exact early (by unfold innerX; rw [if_neg (by omega), Int.toNat_natCast, ga]; exact if_pos hc) W h
  have hin : innerX ts q = ((inGo (ts.drop q) 0 []).1, match (inGo (ts.drop q) 0 []).2 with | some j => (q : Int) + j + 1 | none => ts.length) := by
    unfold innerX
    rw [if_neg (by omega), Int.toNat_natCast, ga]
    dsimp only
    rw [if_neg h3]
  rw [hin] at k
  clear early
  refine h.allocS fun t6 W h => ?_
  replace h := buNew h
  refine h.alloc fun t7 W h => ?_
  refine h.store fun W h => ?_
  refine h.load ?_
  refine ht.drop (by omega) fun vd htd => ?_
  have hul : (ts.drop q).length ≤ 90000 := by rw [List.length_drop]; omega
  have hua : ∀ t ∈ ts.drop q, t.attrs.length ≤ 1000000 := fun t ht => ha t (List.mem_of_mem_drop ht)
  have hux : ∀ t ∈ ts.drop q, t.text.length ≤ 1000000 := fun t ht => htx t (List.mem_of_mem_drop ht)
  generalize hus : ts.drop q = us at *
  refine each_spec htd h fun bE W h => ?_
  have hE := each_itr (b := bE) htd (by omega) hua
  refine rngV (C := InC t3 t4 t5 t6 t7 q us) (InD t3 t4 t5 t6 t7 q us) hE (fun i va => rfl) (l := l) ?_ ?_ ?_ ?_
  · refine St.shutE (0, []) (St.shut5 (⟨?_, by decide, by decide, by simp⟩) h.to)
    simp
  · intro i hi va ll rec I' W kn kst ova h hn' hk
    have gu : us[i]? = some us[i] := List.getElem?_eq_getElem hi
    have hgd : us.getD i default = us[i] := by rw [List.getD_eq_getElem?_getD, gu]; rfl
    have hdr : us.drop i = us[i] :: us.drop (i + 1) := List.drop_eq_getElem_cons hi
    have hxt := hux _ (List.getElem_mem hi)
    unfold eachX
    rw [hgd]
    generalize us[i] = t at *
    refine app2 ?_
    refine h.allocS fun t9 W h => ?_
    refine h.storeS (cs' := tcell (t, va)) fun W h => ?_
    refine ⟨h.ob (b := ll), ?_⟩
    replace h := h.putO (b := ll) (o := .loop (rec .ready none)) (.loop (rec .busy none))
    replace h : St w0 G0 (Ky i (InC t3 t4 t5 t6 t7 q us) :: Ky ll (Ob (.loop (rec .busy none))) :: Ky t9 (Ob (.cells (tcell (t, va)).toArray 88 (0, 0))) :: I') _ := h.to
    obtain ⟨⟨d, b⟩, h⟩ := St.openE h
    obtain ⟨⟨hx, hd1, hd2, hbl⟩, h⟩ := St.open5 h
    simp only at hx hd1 hd2 hbl
    rw [hdr] at hx
    refine app7 ?_
    refine a_fld0 (h.load ?_)
    have hkd := kd_le t.kind
    have hbl2 : (b ++ txOf t).length ≤ (i + 1) * 1000000 := by
      rw [List.length_append]
      have : (txOf t).length ≤ 1000000 := by unfold txOf; split; exact hxt; simp
      omega
    refine jni (fun vs W' => vs = [.pointer (some ⟨t3, 0, none⟩), .pointer (some ⟨t4, 0, none⟩), .pointer (some ⟨t5, 0, none⟩), .pointer (some ⟨t6, 0, none⟩), .pointer (some ⟨t7, 0, none⟩), nV .i64 i] ∧ St w0 G0 (InL t3 t4 t5 t6 t7 q [] 0 (d + kd t.kind) (b ++ txOf t) (Ky ll (Ob (.loop (rec .busy none))) :: I')) W') ?_ ?_
    · rintro vs W _ ⟨rfl, h⟩
      refine app6 ?_
      refine h.load (w_eql (ifd (fun h0 => ?_) fun h0 => ?_))
      · refine ⟨St w0 G0 [Ky t3 (Ob (.cells [(.int .i64 (q : Int) : Value)].toArray 3 (0, 0)))], h.drew.to, ?_⟩
        replace h := h.drew
        refine ss_load (a_add64 (by omega) (by omega) (a_add64 (by omega) (by omega) ?_))
        refine bstr_spec (b := t6) (t := b ++ txOf t) h (by omega) fun W h => ⟨h.to, ?_⟩
        refine h.store fun W h => ⟨h.to, ?_⟩
        refine h.store fun W h => ?_
        refine hk .ret W (St.swap (St.shutE (b ++ txOf t, i) (St.shut2 ⟨rfl, ?_⟩ h.to)))
        rw [hx]
        simp only [inGo, if_pos h0, Option.map_some, Nat.zero_add]
      · refine hn' W (St.swap (St.shutE (d + kd t.kind, b ++ txOf t) (St.shut5 ⟨inGo_step h0 hx, by omega, by omega, hbl2⟩ h.to)))
    · refine w_eql (ifd (fun k1 => ?_) fun k1 => ?_)
      · have e1 : kd t.kind = 1 := by unfold kd; rw [if_pos k1]
        have e2 : txOf t = [] := by unfold txOf; rw [show t.kind = 1 from k1]; rfl
        rw [e1, e2, List.append_nil]
        refine h.load (a_add64 (by omega) (by omega) (h.store fun W h => ⟨rfl, h.to⟩))
      refine jni (fun vs W' => vs = [.pointer (some ⟨t3, 0, none⟩), .pointer (some ⟨t4, 0, none⟩), .pointer (some ⟨t5, 0, none⟩), .pointer (some ⟨t6, 0, none⟩), .pointer (some ⟨t7, 0, none⟩), nV .i64 i] ∧ St w0 G0 (InL t3 t4 t5 t6 t7 q [] 0 (d + kd t.kind) (b ++ txOf t) (Ky ll (Ob (.loop (rec .busy none))) :: I')) W') (by rintro vs W _ ⟨rfl, h⟩; exact app6 ⟨rfl, h⟩) ?_
      refine w_eql (ifd (fun k2 => ?_) fun k2 => ?_)
      · have e1 : kd t.kind = -1 := by unfold kd; rw [if_neg k1, if_pos k2]
        have e2 : txOf t = [] := by unfold txOf; rw [show t.kind = 2 from k2]; rfl
        rw [e1, e2, List.append_nil]
        refine h.load (a_sub64 (by omega) (by omega) (h.store fun W h => ⟨rfl, ?_⟩))
        rw [show d - 1 = d + -1 by omega] at h
        exact h.to
      refine jni (fun vs W' => vs = [.pointer (some ⟨t3, 0, none⟩), .pointer (some ⟨t4, 0, none⟩), .pointer (some ⟨t5, 0, none⟩), .pointer (some ⟨t6, 0, none⟩), .pointer (some ⟨t7, 0, none⟩), nV .i64 i] ∧ St w0 G0 (InL t3 t4 t5 t6 t7 q [] 0 (d + kd t.kind) (b ++ txOf t) (Ky ll (Ob (.loop (rec .busy none))) :: I')) W') (by rintro vs W _ ⟨rfl, h⟩; exact app6 ⟨rfl, h⟩) ?_
      have e1 : kd t.kind = 0 := by unfold kd; rw [if_neg k1, if_neg k2]
      rw [e1, Int.add_zero]
      refine w_eql (ifd (fun k3 => ?_) fun k3 => ?_)
      · have e2 : txOf t = t.text := by unfold txOf; rw [if_pos k3]
        rw [e2] at hbl2 ⊢
        refine a_fld0 (h.load ?_)
        refine wstr_spec (b := t6) (t := b) (s := t.text) h (by omega) fun W h => ⟨rfl, h.to⟩
      · have e2 : txOf t = [] := by unfold txOf; rw [if_neg k3]
        rw [e2, List.append_nil]
        exact ⟨rfl, h.to⟩
  · intro D W h
    replace h : St w0 G0 (Ky us.length (InC t3 t4 t5 t6 t7 q us) :: Ky D (Ob (.deferred (some []))) :: Ky (eachFn bE) (ItE bE vd) :: l) W := h.swap
    obtain ⟨⟨d, b⟩, h⟩ := St.openE h
    obtain ⟨⟨hx, hd1, hd2, hbl⟩, h⟩ := St.open5 h
    simp only at hx hd1 hd2 hbl
    rw [List.drop_length] at hx
    simp only [inGo, Option.map_none] at hx
    rw [hx] at k
    dsimp only at k
    refine bstr_spec (b := t6) (t := b) h (by omega) fun W h => ?_
    refine x_lenS hcs ?_
    refine h.store fun W h => ?_
    refine h.store fun W h => ?_
    refine ⟨h.ob (b := D), ?_⟩
    replace h := h.putO (b := D) (o := .deferred (some [])) (.deferred none)
    refine h.load (h.load ?_)
    exact k _ h.to
  · intro D c i W hi h
    replace h : St w0 G0 (Ky i (InD t3 t4 t5 t6 t7 q us c) :: Ky D (Ob (.deferred (some []))) :: Ky (eachFn bE) (ItE bE vd) :: l) W := h.swap
    obtain ⟨⟨b, j⟩, h⟩ := St.openE h
    obtain ⟨⟨hcc, hx⟩, h2⟩ := St.open2 h
    clear h
    subst hcc
    have h := h2
    clear h2
    simp only at hx h
    rw [hx] at k
    dsimp only at k
    refine ⟨h.ob (b := D), ?_⟩
    replace h := h.putO (b := D) (o := .deferred (some [])) (.deferred none)
    refine h.load (h.load ?_)
    exact k _ h.to
end
end Go.Proofs.YtlflpbflpcmckaaGreatDoor
namespace Go.Ez
open Go
set_option linter.unusedSimpArgs false
set_option linter.unusedVariables false
def leapB (y : Int) : Bool := (decide (y % 4 = 0) && decide (y % 100 ≠ 0)) || decide (y % 400 = 0)
def lenM (y mo : Int) : Int := if mo = 2 then (if leapB y then 29 else 28) else if mo = 4 ∨ mo = 6 ∨ mo = 9 ∨ mo = 11 then 30 else 31
def firstD (y : Int) : Int := (y - 1) * 365 + (y - 1) / 4 - (y - 1) / 100 + (y - 1) / 400 - 719162
/-- the days of so many months -/
def sumL (y : Int) : Nat → Int
  | 0 => 0
  | n + 1 => sumL y n + lenM y (n + 1 : Nat)
def okM (y mo d h mi s : Int) : Bool := decide (1970 ≤ y ∧ y ≤ 9999 ∧ 1 ≤ mo ∧ mo ≤ 12 ∧ 1 ≤ d ∧ d ≤ lenM y mo ∧ 0 ≤ h ∧ h ≤ 23 ∧ 0 ≤ mi ∧ mi ≤ 59 ∧ 0 ≤ s ∧ s ≤ 60)
/-- a day's number -/
def dayN (y mo d : Int) : Int := firstD y + d - 1 + sumL y (mo - 1).toNat
def secN (y mo d h mi s : Int) : Int := dayN y mo d * 86400 + h * 3600 + mi * 60 + min s 59
def makeP (y mo d h mi s : Int) : Int × Bool := if okM y mo d h mi s then (secN y mo d h mi s, true) else (0, false)
def within (t : Int) : Bool := decide (0 ≤ t ∧ t < 253402300800)
theorem lenM_ge (y mo : Int) : 28 ≤ lenM y mo := by unfold lenM; (repeat (first | omega | split))
theorem lenM_le (y mo : Int) : lenM y mo ≤ 31 := by unfold lenM; (repeat (first | omega | split))
theorem sumL_ge (y : Int) (n : Nat) : 0 ≤ sumL y n := by
  induction n with
  | zero => exact Int.le_refl _
  | succ n ih => have := lenM_ge y (n + 1 : Nat); unfold sumL; omega
theorem sumL_le (y : Int) (n : Nat) : sumL y n ≤ 31 * n := by
  induction n with
  | zero => exact Int.le_refl _
  | succ n ih => have := lenM_le y (n + 1 : Nat); unfold sumL; omega
theorem firstD_rng {y : Int} (h : 1970 ≤ y) (h' : y ≤ 10000) : 0 ≤ firstD y ∧ firstD y ≤ 3000000 := by unfold firstD; omega
def isPreD (p s : Txt) : Bool := decide (s.take p.length = p)
def eatS (s p : Txt) : Txt := if isPreD p s then s.drop p.length else s
def wantsP (p : Txt) (x : Txt × Bool) : Txt × Bool := (eatS x.1 p, x.2 || !isPreD p x.1)
def isDig (c : UInt8) : Bool := decide (48 ≤ c.toNat) && decide (c.toNat ≤ 57)
def digs (most : Nat) (s : Txt) : Txt := (s.take most).takeWhile isDig
def numV : Txt → Int → Int
  | [], n => n
  | c :: l, n => numV l (n * 10 + ((c.toNat - 48 : Nat) : Int))
def numberP (least most : Nat) (x : Txt × Bool) : Int × (Txt × Bool) := (numV (digs most x.1) 0, (x.1.drop (digs most x.1).length, x.2 || decide ((digs most x.1).length < least)))
def oneP : List Txt → Txt → Nat × Txt
  | [], s => (0, s)
  | p :: l, s => if isPreD p s then (1, s.drop p.length) else (if (oneP l s).1 = 0 then 0 else (oneP l s).1 + 1, (oneP l s).2)
theorem takeWhile_stop {β : Type} {c : β → Bool} : ∀ {l : List β} {i : Nat}, i ≤ l.length → (∀ j y, j < i → l[j]? = some y → c y = true) → (∀ y, l[i]? = some y → c y = false) → l.takeWhile c = l.take i
  | [], i, _, _, _ => by simp
  | y :: l, 0, _, _, h2 => by rw [List.takeWhile_cons_of_neg (by simp [h2 y rfl])]; rfl
  | y :: l, i + 1, h0, h1, h2 => by
    rw [List.takeWhile_cons_of_pos (h1 0 y (by omega) rfl), List.take_succ_cons, takeWhile_stop (l := l) (i := i) (by simp at h0; omega) (fun j z hj hz => h1 (j + 1) z (by omega) hz) fun z hz => h2 z hz]
theorem digs_stop {most i : Nat} {s : Txt} (h1 : i ≤ most) (h2 : i ≤ s.length) (h3 : ∀ j y, j < i → s[j]? = some y → isDig y = true) (h4 : i < most → ∀ y, s[i]? = some y → isDig y = false) : digs most s = s.take i := by
  unfold digs
  rw [takeWhile_stop (i := i) (by rw [List.length_take]; omega) (fun j y hj hy => ?_) (fun y hy => ?_), List.take_take, Nat.min_eq_left h1]
  · rw [List.getElem?_take] at hy
    split at hy
    · exact h3 j y hj hy
    · cases hy
  · rw [List.getElem?_take] at hy
    split at hy
    · rename_i h; exact h4 h y hy
    · cases hy
theorem numV_append (l : Txt) (c : UInt8) (n : Int) : numV (l ++ [c]) n = numV l n * 10 + ((c.toNat - 48 : Nat) : Int) := by
  induction l generalizing n with
  | nil => rfl
  | cons a l ih => exact ih _
theorem numV_rng : ∀ (l : Txt) (n : Int), 0 ≤ n → (∀ c ∈ l, isDig c = true) → 0 ≤ numV l n ∧ numV l n < (n + 1) * (10 ^ l.length : Nat)
  | [], n, h, _ => by simp [numV]; omega
  | c :: l, n, h, hd => by
    have hc := hd c List.mem_cons_self
    unfold isDig at hc
    rw [Bool.and_eq_true, decide_eq_true_eq, decide_eq_true_eq] at hc
    have ih := numV_rng l (n * 10 + ((c.toNat - 48 : Nat) : Int)) (by omega) fun c hc => hd c (List.mem_cons_of_mem _ hc)
    refine ⟨ih.1, Int.lt_of_lt_of_le ih.2 ?_⟩
    have hle : n * 10 + ((c.toNat - 48 : Nat) : Int) + 1 ≤ (n + 1) * 10 := by omega
    have h1 := Int.mul_le_mul_of_nonneg_right hle (Int.natCast_nonneg (10 ^ l.length))
    rw [List.length_cons, Nat.pow_succ, Int.natCast_mul]
    rw [Int.mul_assoc, Int.mul_comm 10] at h1
    exact h1
theorem digs_all {most : Nat} {s : Txt} : ∀ c ∈ digs most s, isDig c = true := fun c hc => by
  unfold digs at hc
  exact List.all_eq_true.1 (List.all_takeWhile) c hc
theorem digs_len {most : Nat} {s : Txt} : (digs most s).length ≤ most ∧ (digs most s).length ≤ s.length := by
  have := (List.takeWhile_prefix (l := s.take most) isDig).length_le
  rw [List.length_take] at this
  unfold digs; omega
theorem oneP_at {l : List Txt} {s p : Txt} {i : Nat} (h : ∀ (j : Nat) (q : Txt), j < i → l[j]? = some q → isPreD q s = false) (hp : l[i]? = some p) (hh : isPreD p s = true) : oneP l s = (i + 1, s.drop p.length) := by
  induction l generalizing i with
  | nil => cases hp
  | cons q l ih =>
    cases i with
    | zero => cases hp; unfold oneP; rw [if_pos hh]
    | succ i =>
      unfold oneP
      rw [h 0 q (by omega) rfl, if_neg (by simp), ih (fun j q hj hq => h (j + 1) q (by omega) hq) hp]
      simp
theorem oneP_no {l : List Txt} {s : Txt} (h : ∀ (j : Nat) (q : Txt), l[j]? = some q → isPreD q s = false) : oneP l s = (0, s) := by
  induction l with
  | nil => rfl
  | cons q l ih =>
    unfold oneP
    rw [h 0 q rfl, if_neg (by simp), ih fun j q hq => h (j + 1) q hq]
    simp
theorem eatS_no {s p : Txt} (h : isPreD p s = false) : eatS s p = s := by unfold eatS; rw [h]; rfl
end Go.Ez
namespace Go.Ez
open Go
set_option linter.unusedSimpArgs false
set_option linter.unusedVariables false
/-- a reader's state: the text left, is it none? -/
abbrev RSt := Txt × Bool
def eatsP (p : Txt) (x : RSt) : RSt := (eatS x.1 p, x.2)
def signP (x : RSt) : Int × RSt := if isPreD [43] x.1 then (1, eatsP [43] x) else (-1, wantsP [45] (eatsP [43] x))
def badIf (b : Bool) (x : RSt) : RSt := (x.1, x.2 || b)
def offsetP (btw : Txt) (x : RSt) : Int × RSt :=
  let s := signP x
  let h := numberP 2 2 s.2
  let w := wantsP btw h.2
  let m := numberP 2 2 w
  (s.1 * (h.1 * 3600 + m.1 * 60), badIf (decide (23 < h.1 ∨ 59 < m.1)) m.2)
def rangeP (y mo d h mi s off : Int) : Int × Int :=
  if (makeP y mo d h mi s).2 && within ((makeP y mo d h mi s).1 - off) then ((makeP y mo d h mi s).1 - off, 0) else (0, 1)
def secondP (x : RSt) (y mo d h mi s off : Int) : Int × Int := if x.2 || decide (x.1 ≠ []) then (0, 4) else rangeP y mo d h mi s off
def fractionP (x : RSt) : RSt := if isPreD [46] x.1 then ((numberP 1 1 (eatsP [46] x)).2.1.dropWhile isDig, (numberP 1 1 (eatsP [46] x)).2.2) else eatsP [46] x
def teeP (x : RSt) : RSt := if isPreD [84] x.1 then eatsP [84] x else wantsP [116] (eatsP [84] x)
def zedP (x : RSt) : Int × RSt :=
  if isPreD [90] x.1 then (0, eatsP [90] x) else if isPreD [122] (eatS x.1 [90]) then (0, eatsP [122] (eatsP [90] x)) else offsetP [58] (eatsP [122] (eatsP [90] x))
/-- RFC 3339 -/
def netP (s : Txt) : Int × Int :=
  let y := numberP 4 4 (s, false)
  let mo := numberP 2 2 (wantsP [45] y.2)
  let d := numberP 2 2 (wantsP [45] mo.2)
  let h := numberP 2 2 (teeP d.2)
  let mi := numberP 2 2 (wantsP [58] h.2)
  let c := numberP 2 2 (wantsP [58] mi.2)
  let z := zedP (fractionP c.2)
  secondP z.2 y.1 mo.1 d.1 h.1 mi.1 c.1 z.1
def yearP (x : RSt) : Int × RSt :=
  (if (digs 4 x.1).length = 4 then (numberP 2 4 x).1 else if (numberP 2 4 x).1 ≤ 68 then 2000 + (numberP 2 4 x).1 else 1900 + (numberP 2 4 x).1, badIf (decide ((digs 4 x.1).length = 3)) (numberP 2 4 x).2)
def wdaysL : List Txt := [[77, 111, 110], [84, 117, 101], [87, 101, 100], [84, 104, 117], [70, 114, 105], [83, 97, 116], [83, 117, 110]]
def monthsL : List Txt := [[74, 97, 110], [70, 101, 98], [77, 97, 114], [65, 112, 114], [77, 97, 121], [74, 117, 110], [74, 117, 108], [65, 117, 103], [83, 101, 112], [79, 99, 116], [78, 111, 118], [68, 101, 99]]
def zonesL : List Txt := [[71, 77, 84], [85, 84], [90], [69, 83, 84], [69, 68, 84], [67, 83, 84], [67, 68, 84], [77, 83, 84], [77, 68, 84], [80, 83, 84], [80, 68, 84]]
def hoursL : List Int := [0, 0, 0, -5, -4, -6, -5, -7, -6, -8, -7]
def zoneP (x : RSt) : Int × RSt := if 0 < (oneP zonesL x.1).1 then ((hoursL.getD ((oneP zonesL x.1).1 - 1) 0) * 3600, ((oneP zonesL x.1).2, x.2)) else offsetP [] ((oneP zonesL x.1).2, x.2)
def wdayP (s : Txt) : RSt := if 0 < (oneP wdaysL s).1 then wantsP [44, 32] ((oneP wdaysL s).2, false) else ((oneP wdaysL s).2, false)
def monthP (x : RSt) : Nat × RSt := ((oneP monthsL x.1).1, badIf (decide ((oneP monthsL x.1).1 = 0)) ((oneP monthsL x.1).2, x.2))
def colP (x : RSt) : Int × RSt := if isPreD [58] x.1 then numberP 2 2 (eatsP [58] x) else (0, eatsP [58] x)
/-- RFC 822 -/
def mailP (s : Txt) : Int × Int :=
  let d := numberP 1 2 (wdayP s)
  let m := monthP (wantsP [32] d.2)
  let y := yearP (wantsP [32] m.2)
  let h := numberP 2 2 (wantsP [32] y.2)
  let mi := numberP 2 2 (wantsP [58] h.2)
  let c := colP mi.2
  let z := zoneP (wantsP [32] c.2)
  secondP z.2 y.1 (m.1 : Int) d.1 h.1 mi.1 c.1 z.1
def anyP (s : Txt) : Int × Int := if (netP s).2 = 4 then mailP s else netP s
theorem eatS_le (s p : Txt) : (eatS s p).length ≤ s.length := by unfold eatS; split <;> simp
theorem wantsP_le (p : Txt) (x : RSt) : (wantsP p x).1.length ≤ x.1.length := eatS_le _ _
theorem numberP_le (l m : Nat) (x : RSt) : (numberP l m x).2.1.length ≤ x.1.length := by show (x.1.drop _).length ≤ _; simp
theorem oneP_le2 (ls : List Txt) (s : Txt) : (oneP ls s).2.length ≤ s.length := by
  induction ls with
  | nil => exact Nat.le_refl _
  | cons p ls ih => unfold oneP; split; · simp
                    · exact ih
theorem wdayP_le (s : Txt) : (wdayP s).1.length ≤ s.length := by
  have := oneP_le2 wdaysL s
  unfold wdayP
  split
  · exact Nat.le_trans (wantsP_le _ _) this
  · exact this
theorem monthP_le (x : RSt) : (monthP x).2.1.length ≤ x.1.length := oneP_le2 _ _
end Go.Ez
namespace Go.Ez
open Go Go.Proofs
set_option linter.unusedSimpArgs false
set_option linter.unusedVariables false
/-- an entry -/
structure Ent where
  num : Int
  guid : Txt
  title : Txt
  link : Txt
  when_ : Int
deriving DecidableEq, Inhabited
/-- blanks at the end let go -/
def rtr (s : Txt) : Txt := (s.reverse.dropWhile XRd.isBl).reverse
def trimX (s : Txt) : Txt := (rtr s).dropWhile XRd.isBl
theorem rtr_snoc (s : Txt) (c : UInt8) : rtr (s ++ [c]) = if XRd.isBl c then rtr s else s ++ [c] := by
  unfold rtr
  rw [List.reverse_append, List.reverse_singleton, List.singleton_append]
  split
  · rename_i h; rw [List.dropWhile_cons_of_pos h]
  · rename_i h; rw [List.dropWhile_cons_of_neg h]; simp
theorem dropWhile_le (p : UInt8 → Bool) : ∀ s : Txt, (s.dropWhile p).length ≤ s.length
  | [] => Nat.le_refl _
  | c :: s => by
    rw [List.dropWhile_cons]
    split
    · exact Nat.le_succ_of_le (dropWhile_le p s)
    · exact Nat.le_refl _
theorem rtr_le (s : Txt) : (rtr s).length ≤ s.length := by
  unfold rtr
  rw [List.length_reverse]
  exact Nat.le_trans (dropWhile_le _ _) (by simp)
theorem trimX_le (s : Txt) : (trimX s).length ≤ s.length := Nat.le_trans (dropWhile_le _ _) (rtr_le s)
def endX (ts : List XTk) (i : Nat) : Nat := (innerX ts i).2.toNat
def kidsGo (sp nm : Txt) (ts : List XTk) : Nat → Nat → List (Nat × Nat)
  | 0, _ => []
  | f + 1, i => match ts[i]? with
    | none => []
    | some t => if t.kind ≠ 1 then kidsGo sp nm ts f (i + 1) else if t.space = sp ∧ t.name = nm then (i, endX ts i) :: kidsGo sp nm ts f (endX ts i) else kidsGo sp nm ts f (endX ts i)
def kids (sp nm : Txt) (ts : List XTk) : List (Nat × Nat) := kidsGo sp nm ts ts.length 1
def subN (ts : List XTk) (p : Nat × Nat) : List XTk := (ts.drop p.1).take (p.2 - p.1)
def subs (sp nm : Txt) (ts : List XTk) : List (List XTk) := (kids sp nm ts).map (subN ts)
def childX (sp nm : Txt) (ts : List XTk) : Option (List XTk) := (subs sp nm ts).head?
def textX (ts : List XTk) : Txt := trimX (innerX ts 0).1
def inT (sp nm : Txt) (ts : List XTk) : Txt := textX ((childX sp nm ts).getD [])
def attrX (nm : Txt) : List XAt → Option Txt
  | [] => none
  | a :: l => if a.space = [] ∧ a.name = nm then some a.value else attrX nm l
def whenX (s : Txt) : Int := if (anyP s).2 ≠ 0 then 0 else (anyP s).1
abbrev tGuid : Txt := [103, 117, 105, 100]
abbrev tTitle : Txt := [116, 105, 116, 108, 101]
abbrev tLink : Txt := [108, 105, 110, 107]
abbrev tPub : Txt := [112, 117, 98, 68, 97, 116, 101]
abbrev tAtom : Txt := [104, 116, 116, 112, 58, 47, 47, 119, 119, 119, 46, 119, 51, 46, 111, 114, 103, 47, 50, 48, 48, 53, 47, 65, 116, 111, 109]
abbrev tHref : Txt := [104, 114, 101, 102]
abbrev tRel : Txt := [114, 101, 108]
abbrev tAlt : Txt := [97, 108, 116, 101, 114, 110, 97, 116, 101]
abbrev tUpd : Txt := [117, 112, 100, 97, 116, 101, 100]
abbrev tPubl : Txt := [112, 117, 98, 108, 105, 115, 104, 101, 100]
abbrev tId : Txt := [105, 100]
abbrev tRss : Txt := [114, 115, 115]
abbrev tChan : Txt := [99, 104, 97, 110, 110, 101, 108]
abbrev tItem : Txt := [105, 116, 101, 109]
abbrev tFeed : Txt := [102, 101, 101, 100]
abbrev tEntry : Txt := [101, 110, 116, 114, 121]
def itemX (n : List XTk) : Ent := ⟨0, inT [] tGuid n, inT [] tTitle n, inT [] tLink n, whenX (inT [] tPub n)⟩
def atts (n : List XTk) : List XAt := match n with | [] => [] | t :: _ => t.attrs
def linkOk (n : List XTk) : Option Txt := match attrX tHref (atts n) with
  | none => none
  | some h => match attrX tRel (atts n) with
    | none => some h
    | some r => if r = tAlt then some h else none
def linkGo : List (List XTk) → Txt
  | [] => []
  | c :: l => match linkOk c with
    | some h => trimX h
    | none => linkGo l
def dateN (n : List XTk) : List XTk := match childX tAtom tUpd n with
  | some c => c
  | none => (childX tAtom tPubl n).getD []
def entryX (n : List XTk) : Ent := ⟨0, inT tAtom tId n, inT tAtom tTitle n, linkGo (subs tAtom tLink n), whenX (textX (dateN n))⟩
/-- an entry laid behind others -/
def guidX (e : Ent) : Txt := if e.guid = [] then e.link else e.guid
def addX (l : List Ent) (e : Ent) : List Ent := if guidX e = [] ∨ (l.any fun x => decide (x.guid = guidX e)) then l else l ++ [{ e with guid := guidX e, num := l.length }]
abbrev FdX := Txt × List Ent
def readX (n : List XTk) : FdX × Bool := match n with
  | [] => (([], []), false)
  | t :: _ =>
    if t.space = [] ∧ t.name = tRss then ((inT [] tTitle ((childX [] tChan n).getD []), (subs [] tItem ((childX [] tChan n).getD [])).foldl (fun l c => addX l (itemX c)) []), (childX [] tChan n).isSome)
    else if t.space = tAtom ∧ t.name = tFeed then ((inT tAtom tTitle n, (subs tAtom tEntry n).foldl (fun l c => addX l (entryX c)) []), true)
    else (([], []), false)
def longE (e : Ent) : Bool := decide (500 < max (max e.guid.length e.title.length) e.link.length)
def wrongX (f : FdX) : Int := if 200 < f.2.length then 17 else if 500 < f.1.length ∨ f.2.any longE then 3 else 0
def feedX (p : List XTk × Int) : FdX × Int :=
  if p.2 ≠ 0 then (([], []), p.2) else if (readX p.1).2 = false then (([], []), 4) else if wrongX (readX p.1).1 ≠ 0 then (([], []), wrongX (readX p.1).1) else ((readX p.1).1, 0)
theorem inGo_lt : ∀ {l : List XTk} {d : Int} {b : Txt} {j : Nat}, (inGo l d b).2 = some j → j < l.length
  | [], _, _, _, h => by simp [inGo] at h
  | t :: l, d, b, j, h => by
    unfold inGo at h
    split at h
    · simp only [Option.some.injEq] at h; subst h; simp
    · simp only at h
      cases hx : (inGo l (d + kd t.kind) (b ++ txOf t)).2 with
      | none => rw [hx] at h; simp at h
      | some q =>
        rw [hx] at h
        simp only [Option.map_some, Option.some.injEq] at h
        have := inGo_lt hx
        rw [List.length_cons]; omega
theorem innerX_at {ts : List XTk} {i : Nat} {t : XTk} (h : ts[i]? = some t) (hk : t.kind = 1) : (i : Int) < (innerX ts i).2 ∧ (innerX ts i).2 ≤ ts.length := by
  have hi := (List.getElem?_eq_some_iff.1 h).1
  unfold innerX
  rw [if_neg (by omega), Int.toNat_natCast, h]
  dsimp only
  rw [if_neg (by omega)]
  cases hx : (inGo (ts.drop i) 0 []).2 with
  | none => simp only; omega
  | some j =>
    have := inGo_lt hx
    rw [List.length_drop] at this
    simp only; omega
theorem endX_at {ts : List XTk} {i : Nat} {t : XTk} (h : ts[i]? = some t) (hk : t.kind = 1) : (innerX ts i).2 = (endX ts i : Nat) ∧ i < endX ts i ∧ endX ts i ≤ ts.length := by
  have := innerX_at h hk
  unfold endX
  omega
theorem kidsGo_ok {sp nm : Txt} {ts : List XTk} : ∀ {f i : Nat} {p : Nat × Nat}, p ∈ kidsGo sp nm ts f i → i ≤ p.1 ∧ p.1 < p.2 ∧ p.2 ≤ ts.length
  | 0, _, _, h => by cases h
  | f + 1, i, p, h => by
    unfold kidsGo at h
    cases ht : ts[i]? with
    | none => rw [ht] at h; cases h
    | some t =>
      rw [ht] at h
      simp only at h
      split at h
      · have := kidsGo_ok h; omega
      · rename_i hk
        have he := endX_at ht (by omega)
        split at h
        · rcases List.mem_cons.1 h with rfl | h
          · simp only; omega
          · have := kidsGo_ok h; omega
        · have := kidsGo_ok h; omega
theorem kidsGo_len {sp nm : Txt} {ts : List XTk} : ∀ {f i : Nat}, (kidsGo sp nm ts f i).length ≤ f
  | 0, _ => Nat.le_refl _
  | f + 1, i => by
    unfold kidsGo
    split
    · exact Nat.zero_le _
    · split
      · exact Nat.le_succ_of_le kidsGo_len
      · split
        · rw [List.length_cons]; exact Nat.succ_le_succ kidsGo_len
        · exact Nat.le_succ_of_le kidsGo_len
theorem subN_len {ts : List XTk} {p : Nat × Nat} : (subN ts p).length ≤ ts.length := by unfold subN; rw [List.length_take, List.length_drop]; omega
theorem subN_mem {ts : List XTk} {p : Nat × Nat} {t : XTk} (h : t ∈ subN ts p) : t ∈ ts := List.mem_of_mem_drop (List.mem_of_mem_take h)
end Go.Ez
namespace Go.Proofs.YtlflpbflpcmckaaGreatDoor
open Go Go.Ez Go.RowKit
set_option linter.unusedSimpArgs false
set_option linter.unusedVariables false
section
variable {w0 W W' : World} {G : Nat → Prop} {l R : List As} {RR : Value → World → Prop} {y mo d h mi s : Int}
/-- date.leap -/
theorem leap_spec (hy : 0 ≤ y) (k : RR (.bool (leapB y)) W) : CallF Tryz.prog 192 #[.int .i64 y] W RR := by
  refine sh192_calls ?_
  unfold sh192
  unfold leapB at k
  refine a_rem64 hy (by decide) (w_eql (ifd (fun h4 => ?_) fun h4 => ?_))
  · refine a_rem64 hy (by decide) (w_neq (ifd (fun h1 => ?_) fun h1 => ?_))
    · rw [decide_eq_true h4, decide_eq_true h1] at k; exact k
    · refine a_rem64 hy (by decide) (w_eql ?_)
      rw [decide_eq_false h1] at k; simpa using k
  · refine a_rem64 hy (by decide) (w_eql ?_)
    rw [decide_eq_false h4] at k; simpa using k
/-- date.length -/
theorem length_spec (hy : 0 ≤ y) (k : RR (.int .i64 (lenM y mo)) W) : CallF Tryz.prog 183 #[.int .i64 y, .int .i64 mo] W RR := by
  refine sh183_calls ?_
  unfold sh183
  refine jni (fun vs W' => vs = [] ∧ ¬ mo = 2 ∧ ¬ (mo = 4 ∨ mo = 6 ∨ mo = 9 ∨ mo = 11) ∧ W' = W) ?_ ?_
  · rintro vs W' _ ⟨rfl, h2, h3, rfl⟩
    show RR _ _
    unfold lenM at k
    rw [if_neg h2, if_neg h3] at k; exact k
  · have e30 : ¬ mo = 2 → (mo = 4 ∨ mo = 6 ∨ mo = 9 ∨ mo = 11) → RR (.int .i64 30) W := fun h2 h3 => by
      unfold lenM at k; rw [if_neg h2, if_pos h3] at k; exact k
    refine w_eql (ifd (fun h2 => ?_) fun h2 => ?_)
    · refine leap_spec hy (ifb (fun hl => ?_) fun hl => ?_)
      · unfold lenM at k; rw [if_pos h2, if_pos hl] at k; exact k
      · refine w_eql (ifd_pos h2 ?_)
        unfold lenM at k; rw [if_pos h2, hl, if_neg (by simp)] at k; exact k
    · refine w_eql (ifd_neg h2 ?_)
      refine w_eql (ifd (fun h3 => e30 h2 (by omega)) fun h4 => ?_)
      refine w_eql (ifd (fun h3 => e30 h2 (by omega)) fun h6 => ?_)
      refine w_eql (ifd (fun h3 => e30 h2 (by omega)) fun h9 => ?_)
      refine w_eql (ifd (fun h3 => e30 h2 (by omega)) fun h11 => ?_)
      exact ⟨rfl, h2, by omega, rfl⟩
/-- date.first -/
theorem firstd_spec (hy : 1 ≤ y) (hy' : y ≤ 100000) (k : RR (.int .i64 (firstD y)) W) : CallF Tryz.prog 184 #[.int .i64 y] W RR := by
  refine sh184_calls ?_
  unfold sh184
  refine a_sub64 (by omega) (by omega) (a_mul64 (by omega) (by omega) ?_)
  refine a_quo64 (by omega) (by omega) (by decide) (a_add64 (by omega) (by omega) ?_)
  refine a_quo64 (by omega) (by omega) (by decide) (a_sub64 (by omega) (by omega) ?_)
  refine a_quo64 (by omega) (by omega) (by decide) (a_add64 (by omega) (by omega) ?_)
  refine a_sub64 (by omega) (by omega) ?_
  exact k
/-- date.within -/
theorem within_spec {t : Int} (k : RR (.bool (within t)) W) : CallF Tryz.prog 176 #[.int .i64 t] W RR := by
  refine sh176_calls ?_
  unfold sh176
  unfold within at k
  refine a_geq (ifd (fun h0 => ?_) fun h0 => ?_)
  · refine firstd_spec (by decide) (by decide) ?_
    rw [show firstD 10000 = 2932897 by decide]
    refine a_mul64 (by decide) (by decide) (a_lss ?_)
    rw [show (2932897 * 86400 : Int) = 253402300800 by decide]
    rw [show decide (0 ≤ t ∧ t < 253402300800) = decide (t < 253402300800) from decide_eq_decide.2 ⟨fun h => h.2, fun h => ⟨h0, h⟩⟩] at k
    exact k
  · rw [decide_eq_false fun h => h0 h.1] at k; exact k
/-- date.Make -/
theorem make_spec (k : RR (.tuple #[.int .i64 (makeP y mo d h mi s).1, .bool (makeP y mo d h mi s).2]) W) : CallF Tryz.prog 175 #[.int .i64 y, .int .i64 mo, .int .i64 d, .int .i64 h, .int .i64 mi, .int .i64 s] W RR := by
  refine sh175_calls ?_
  unfold sh175
  refine jni (fun vs W' => ∃ b : Bool, vs = [.int .i64 y, .int .i64 mo, .int .i64 d, .int .i64 h, .int .i64 mi, .int .i64 s, .bool b] ∧ okM y mo d h mi s = !b ∧ W' = W) ?_ ?_
  · rintro vs W' _ ⟨b, rfl, hok, rfl⟩
    refine app7 ?_
    refine ifb (fun hb => ?_) fun hb => ?_
    · subst hb
      unfold makeP at k; rw [hok] at k; exact k
    subst hb
    have e : makeP y mo d h mi s = (secN y mo d h mi s, true) := by unfold makeP; rw [hok]; rfl
    rw [e] at k
    obtain ⟨h1, h2, h3, h4, h5, h6, h7, h8, h9, h10, h11, h12⟩ := of_decide_eq_true hok
    have hl := lenM_le y mo
    obtain ⟨hf, hf'⟩ := firstD_rng h1 (by omega)
    refine firstd_spec (by omega) (by omega) ?_
    refine a_add64 (by omega) (by omega) (a_sub64 (by omega) (by omega) ?_)
    refine lpx (α := Nat) (fun i => [.int .i64 (firstD y + d - 1 + sumL y i), nV .i64 (i + 1)]) (fun i W'' => i + 1 ≤ mo.toNat ∧ W'' = W') (fun i => mo.toNat - i) 0 (fun _ => rfl) (by simp [sumL]) ⟨by omega, rfl⟩ ?_
    rintro next i W3 hnext ⟨hi, rfl⟩
    refine app2 ?_
    have hs1 := sumL_ge y i
    have hs2 := sumL_le y i
    refine a_lss (ifd (fun hc => ?_) fun hc => ?_)
    · refine length_spec (by omega) ?_
      have hg := lenM_ge y ((i + 1 : Nat) : Int)
      have hg' := lenM_le y ((i + 1 : Nat) : Int)
      refine a_add64 (by omega) (by omega) (a_add64 (by omega) (by omega) ⟨rfl, rfl, rfl, rfl, rfl, ?_⟩)
      rw [show firstD y + d - 1 + sumL y i + lenM y ((i + 1 : Nat) : Int) = firstD y + d - 1 + sumL y (i + 1) by rw [show sumL y (i + 1) = sumL y i + lenM y ((i + 1 : Nat) : Int) from rfl]; omega, show (((i + 1 : Nat) : Int) + 1) = ((i + 1 + 1 : Nat) : Int) by push_cast; rfl]
      exact hnext (i + 1) _ (by omega) ⟨by omega, rfl⟩
    · have hie : i = (mo - 1).toNat := by omega
      refine a_mul64 (by omega) (by omega) (a_mul64 (by omega) (by omega) (a_add64 (by omega) (by omega) (a_mul64 (by omega) (by omega) (a_add64 (by omega) (by omega) (w_min (a_add64 (by omega) (by omega) ?_))))))
      subst hie
      exact k
  · have bad : ¬ (1970 ≤ y ∧ y ≤ 9999 ∧ 1 ≤ mo ∧ mo ≤ 12 ∧ 1 ≤ d ∧ d ≤ lenM y mo ∧ 0 ≤ h ∧ h ≤ 23 ∧ 0 ≤ mi ∧ mi ≤ 59 ∧ 0 ≤ s ∧ s ≤ 60) → ∃ b : Bool, ([.int .i64 y, .int .i64 mo, .int .i64 d, .int .i64 h, .int .i64 mi, .int .i64 s, .bool true] : List Value) = [.int .i64 y, .int .i64 mo, .int .i64 d, .int .i64 h, .int .i64 mi, .int .i64 s, .bool b] ∧ okM y mo d h mi s = !b ∧ W = W := fun hn => ⟨true, rfl, decide_eq_false hn, rfl⟩
    refine a_lss (ifd (fun hc => bad fun hx => by omega) fun c1 => ?_)
    refine a_gtr (ifd (fun hc => bad fun hx => by omega) fun c2 => ?_)
    refine a_lss (ifd (fun hc => bad fun hx => by omega) fun c3 => ?_)
    refine a_gtr (ifd (fun hc => bad fun hx => by omega) fun c4 => ?_)
    refine a_lss (ifd (fun hc => bad fun hx => by omega) fun c5 => ?_)
    refine length_spec (by omega) ?_
    refine a_gtr (ifd (fun hc => bad fun hx => by omega) fun c6 => ?_)
    refine a_lss (ifd (fun hc => bad fun hx => by omega) fun c7 => ?_)
    refine a_gtr (ifd (fun hc => bad fun hx => by omega) fun c8 => ?_)
    refine a_lss (ifd (fun hc => bad fun hx => by omega) fun c9 => ?_)
    refine a_gtr (ifd (fun hc => bad fun hx => by omega) fun c10 => ?_)
    refine a_lss (ifd (fun hc => bad fun hx => by omega) fun c11 => ?_)
    refine a_gtr ⟨_, rfl, ?_, rfl⟩
    unfold okM
    by_cases hs : 60 < s
    · rw [decide_eq_true hs, decide_eq_false fun hx => by omega]; rfl
    · rw [decide_eq_false hs, decide_eq_true (by omega)]; rfl
end
end Go.Proofs.YtlflpbflpcmckaaGreatDoor
