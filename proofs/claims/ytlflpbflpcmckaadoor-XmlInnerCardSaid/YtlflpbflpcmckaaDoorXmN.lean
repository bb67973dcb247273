/-
  XML: content: what it answers.
-/
import Derived.Test.YtlflpbflpcmckaaDoorXmM
namespace Go.Proofs.YtlflpbflpcmckaaDoor
open Go Go.Ez Go.RowKit Go.Lib
set_option linter.unusedSimpArgs false
set_option linter.unusedVariables false
section
variable {w0 W W' : World} {G : Nat → Prop} {l R R1 R2 : List As} {RR : Value → World → Prop} {t s pre : Txt} {b g n mb : Nat} {r : XRd} {v : Value} {f : XFr} {m : XMem} {L : List XPr} {name : Txt × Txt}
theorem flush_keep (r : XRd) : r.flush.at_ = r.at_ ∧ r.flush.s = r.s ∧ r.flush.op = r.op ∧ r.flush.out.length ≤ r.out.length + 1 ∧ r.flush.run = [] := by
  unfold XRd.flush
  split
  · unfold XRd.fail; split <;> exact ⟨rfl, rfl, rfl, Nat.le_succ _, rfl⟩
  · split
    · exact ⟨rfl, rfl, rfl, by simp, rfl⟩
    · exact ⟨rfl, rfl, rfl, Nat.le_succ _, rfl⟩
theorem content_spec (hT : XTabs w0) (h : St w0 G0 (XLs r b m R) W) (hm : XFit r m) (hok : r.Ok) (hs : r.s.length ≤ 30000) (hne : r.op ≠ []) (hop : r.op.length ≤ 1000) (hout : r.out.length ≤ 800000) (hrun : r.run.length ≤ 90000000000)
    (k : ∀ m' W', XFit (XRd.content decX signS r) m' → St w0 G0 (XLs (XRd.content decX signS r) b m' R) W' → RR (.tuple #[]) W') : CallF Tryd.prog 29 #[.pointer (some ⟨b, 0, none⟩)] W RR := by
  refine sh29_calls ?_
  unfold sh29
  have holen := hm.olen
  have hplen := hm.plen
  obtain ⟨vo, vp, vb, u, ov, pv, zs, ms⟩ := m
  simp only at *
  have ovo : Cel1 vo := .of_own (h.ow (v := vo))
  have ovp : Cel1 vp := .of_own (h.ow (v := vp))
  have ovb : Cel1 vb := .of_own (h.ow (v := vb))
  unfold XRd.content at k
  dsimp only at k
  have hst1 := XRd.stp_see (n := 0) hok
  refine see_spec (n := 0) (r := r) (c := (vo, vp, xp b u, vb)) h hok (by omega) (by decide) fun W h => ?_
  -- a text put to the run
  have putRun : ∀ (q : XRd) (t : Txt) (W : World), XRd.Stp r q → t.length ≤ 1000000 → St w0 G0 (Ky b (Xo q (vo, vp, xp b u, vb)) :: Ky vo (TkS ov) :: Ky vp (FrS pv) :: Ky vb (Ow 5 1 r.run.length (bytesV r.run)) :: Ky PoolK.a (KqA zs) :: Ky PoolK.b (Km ms) :: R) W →
      (∀ m' W', XFit ({ q with run := q.run ++ t } : XRd) m' → St w0 G0 (XLs ({ q with run := q.run ++ t } : XRd) b m' R) W' → RR (.tuple #[]) W') → CallF Tryd.prog 33 #[.pointer (some ⟨b, 5, none⟩), strV t] W fun _ W => RR (.tuple #[]) W := fun q t W hst ht h kk => by
    refine xwstr_spec (r := q) (vo := vo) (vp := vp) (u := u) (v := vb) (t := r.run) (s := t) h (by omega) fun v' W o' h => ?_
    refine kk ⟨vo, vp, v', true, ov, pv, zs, ms⟩ W ⟨hm.ov.trans hst.out.symm, hm.oz, hm.pv.trans hst.op.symm, hm.pm⟩ ?_
    show St w0 G0 (Ky b (Xo q (vo, vp, xp b true, v')) :: Ky vo (TkS ov) :: Ky vp (FrS pv) :: Ky v' (Ow 5 1 (q.run ++ t).length (bytesV (q.run ++ t))) :: Ky PoolK.a (KqA zs) :: Ky PoolK.b (Km ms) :: R) W
    rw [hst.run]
    exact h.to
  refine w_neC 60 rfl (ifd (fun hc => ?_) fun hc => ?_)
  · rw [if_pos hc] at k
    refine ⟨fun _ => True, trivial, ?_⟩
    replace h := h.drew
    refine a_nil (a_fld0 ?_)
    have hst2 := hst1.trans (XRd.stp_part (sgn := signS) decX_ok hst1.ok)
    have hpl := part_len (r := (r.see 0).2)
    rw [XRd.see_s] at hpl
    refine part_spec hT (r := (r.see 0).2) (c := (vo, vp, xp b u, vb)) h hst1.ok (by rw [XRd.see_s]; omega) fun W h => ?_
    exact putRun _ _ W hst2 (by omega) h k
  rw [if_neg hc] at k
  have hc60 : (r.see 0).1 = 60 := Classical.not_not.1 hc
  obtain ⟨x, hx, hxe⟩ := XRd.see_c (r := r) (n := 0) (by rw [hc60]; decide)
  rw [hxe] at h k
  dsimp only at h k
  have hy := XRd.stp_see (n := 1) hok
  refine see_spec (n := 1) (r := r) (c := (vo, vp, xp b u, vb)) h hok (by omega) (by decide) fun W h => ?_
  refine a_nil (a_fld0 (h.load ?_))
  refine w_neq (ifd (fun he => ?_) fun he => ?_)
  · rw [if_pos he] at k
    exact k ⟨vo, vp, vb, u, ov, pv, zs, ms⟩ W (hm.same hy.out hy.op) (xls_of (m := ⟨vo, vp, vb, u, ov, pv, zs, ms⟩) hy.run h)
  rw [if_neg he] at k
  obtain ⟨d, hd, hde⟩ := XRd.see_e (Classical.not_not.1 he)
  rw [hde] at h k ⊢
  dsimp only at h k ⊢
  have hlt := XRd.lt_of_at hd
  have hz := XRd.stp_see (n := 2) hok
  have hfk := flush_keep r
  have tail : ∀ W, d ≠ 33 → St w0 G0 (Ky b (Xo r (vo, vp, xp b u, vb)) :: Ky vo (TkS ov) :: Ky vp (FrS pv) :: Ky vb (Ow 5 1 r.run.length (bytesV r.run)) :: Ky PoolK.a (KqA zs) :: Ky PoolK.b (Km ms) :: R) W →
      RunW Tryd.prog (bin .eql 5 (.tmp 44) (.const (.int .u8 47)) (byteV d) (.int .u8 47)) W fun t45 =>
      IfB t45 (
      CallF Tryd.prog 48 #[.pointer (some ⟨b, 0, none⟩)] W fun _ w =>
      CallF Tryd.prog 49 #[.pointer (some ⟨b, 0, none⟩)] w fun _ w =>
      RR (.tuple #[]) w) (
      CallF Tryd.prog 27 #[byteV d] W fun t52 w =>
      IfB t52 (
      CallF Tryd.prog 48 #[.pointer (some ⟨b, 0, none⟩)] w fun _ w =>
      CallF Tryd.prog 28 #[.pointer (some ⟨b, 0, none⟩)] w fun _ w =>
      RR (.tuple #[]) w) (
      CallF Tryd.prog 26 #[.pointer (some ⟨b, 0, none⟩), (.int .i64 4)] w fun _ w =>
      RR (.tuple #[]) w)) := fun W h33 h => by
    rw [if_neg (fun hx => h33 hx.1), if_neg h33] at k
    refine w_eqC 47 rfl (ifd (fun h47 => ?_) fun h47 => ?_)
    · rw [if_pos h47] at k
      refine flush_spec (r := r) (m := ⟨vo, vp, vb, u, ov, pv, zs, ms⟩) (R := R) h hm (by show ov.length ≤ _; omega) (by omega) fun m' W hm' _ _ _ h => ?_
      exact end_spec hT (r := r.flush) h hm' (by rw [hfk.1, hfk.2.1]; omega) (by rw [hfk.2.1]; exact hs) (by rw [hfk.2.2.1]; exact hne) (by rw [hfk.2.2.1]; exact hop) (by omega) fun m'' W hm'' h => k m'' W hm'' h
    · rw [if_neg h47] at k
      refine begins_spec (ifb (fun hb => ?_) fun hb => ?_)
      · rw [if_pos hb] at k
        refine flush_spec (r := r) (m := ⟨vo, vp, vb, u, ov, pv, zs, ms⟩) (R := R) h hm (by show ov.length ≤ _; omega) (by omega) fun m' W hm' _ _ _ h => ?_
        exact element_spec hT (r := r.flush) h hm' (by rw [hfk.1, hfk.2.1]; omega) (by rw [hfk.2.1]; exact hs) (by rw [hfk.2.2.1]; exact hop) (by omega) fun m'' W hm'' h => k m'' W hm'' h
      · rw [if_neg (by rw [hb]; decide)] at k
        refine fail_spec (r := r) (c := (vo, vp, xp b u, vb)) h fun W h => ?_
        have hf := XRd.stp_fail (r := r) (c := 4) (by decide) hok.lt
        exact k ⟨vo, vp, vb, u, ov, pv, zs, ms⟩ W (hm.same hf.out hf.op) (xls_of (m := ⟨vo, vp, vb, u, ov, pv, zs, ms⟩) hf.run h)
  refine w_eqC 33 rfl (ifd (fun h33 => ?_) fun h33 => ?_)
  · refine see_spec (n := 2) (r := r) (c := (vo, vp, xp b u, vb)) h hok (by omega) (by decide) fun W h => ?_
    refine w_eqC 91 rfl (ifd (fun h91 => ?_) fun h91 => ?_)
    · rw [if_pos ⟨h33, h91⟩] at k
      obtain ⟨y, hyx, hye⟩ := XRd.see_c (r := r) (n := 2) (by rw [h91]; decide)
      rw [hye] at h k
      dsimp only at h k
      have hst2 := XRd.stp_wants (p := [60, 33, 91, 67, 68, 65, 84, 65, 91]) hok
      refine wants_spec (p := [60, 33, 91, 67, 68, 65, 84, 65, 91]) (r := r) (c := (vo, vp, xp b u, vb)) h hok (by omega) (by decide) fun W h => ?_
      refine ⟨fun _ => True, trivial, ?_⟩
      replace h := h.drew
      refine a_nil (a_fld0 ?_)
      have hst3 := hst2.trans (XRd.stp_til (p := [93, 93, 62]) decX_ok hst2.ok)
      refine til_spec hT (p := [93, 93, 62]) (r := _) (c := (vo, vp, xp b u, vb)) h hst2.ok (by rw [hst2.s]; omega) (by decide) fun W h => ?_
      refine putRun _ _ W hst3 ?_ h k
      unfold XRd.til
      split
      · exact Nat.zero_le _
      · dsimp only
        rw [List.length_take, List.length_drop, hst2.s]; omega
    · rw [if_neg (fun hx => h91 hx.2), if_pos h33] at k
      refine w_eqC 33 rfl (ifd_pos h33 ?_)
      have hst2 := hz.trans (XRd.stp_comment decX_ok hz.ok)
      refine comment_spec hT (r := (r.see 2).2) (c := (vo, vp, xp b u, vb)) h hz.ok (by rw [hz.s]; omega) fun W h => ?_
      exact k ⟨vo, vp, vb, u, ov, pv, zs, ms⟩ W (hm.same hst2.out hst2.op) (xls_of (m := ⟨vo, vp, vb, u, ov, pv, zs, ms⟩) hst2.run h)
  · refine w_eqC 33 rfl (ifd_neg h33 ?_)
    exact tail W h33 h
end
end Go.Proofs.YtlflpbflpcmckaaDoor
