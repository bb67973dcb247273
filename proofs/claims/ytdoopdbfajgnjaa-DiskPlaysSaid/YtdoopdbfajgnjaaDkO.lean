/-
  FILES THAT FALL: read, listed; the document's: appended to, cut, renamed, deleted, made durable, read, listed, planned.
-/
import Derived.Test.YtdoopdbfajgnjaaDkN
namespace Go.Proofs.Ytdoopdbfajgnjaa
open Go Go.Ez Go.RowKit
set_option linter.unusedSimpArgs false
set_option linter.unusedVariables false
section
variable {w0 W : World} {l R R1 R2 R3 R4 R5 : List As} {zs zs' : Zs} {v : Value} {RR : Value → World → Prop} {s : Txt} {d : Dd}
/-- Read -/
theorem read_spec [i : Has l v (Dk zs d) R1] [j : Has R1 PoolK.a (Pl zs) R] (h : St w0 G0 l W) (hc : d.calls ≤ 300000) (hs : s.length ≤ 1000000000)
    (k : ∀ zs' v' W', (∀ z ∈ zs, z ∈ zs') → Cel1 v' → St w0 G0 (Ky v' (BO (d.readP s).2.1) :: Ky v (Dk zs' (d.readP s).1) :: Ky PoolK.a (Pl zs') :: R) W' → RR (.tuple #[v', .int .i64 (d.readP s).2.2]) W') : CallF Try.prog 47 #[v, strV s] W RR := by
  refine sh47_calls ?_
  unfold sh47
  replace h := has2 (k := v) (k' := PoolK.a) h
  have hV := (dkV (v := v) h).1
  refine h.lit (vs := [strV s]) (fun u W o h => ?_) (by decide)
  refine call_spec (v := v) (a1 := u) (ns := [s]) h (by omega) (by simpa using hs) fun zs1 W hz1 h => ?_
  have hVr := hV.call [s]
  unfold Dd.readP at k
  generalize d.call [s] = r at *
  dsimp only at k
  refine a_ext0 (a_ext1 ?_)
  have hnil : St w0 G0 (Ky (.slice none 0 0 : Value) (BO []) :: _) W := h.nilOw
  refine w_neq (ifd (fun he => ?_) fun he => ?_)
  · rw [if_pos he] at k
    exact k zs1 _ W hz1 ⟨rfl⟩ hnil
  rw [if_neg he] at k
  refine there_spec (s := s) (freezeD (v := v) h) ?_
  refine a_not (ifnb (fun hn => ?_) fun hn => ?_)
  · have hn' : getK s r.1.now = none := by
      cases hq : getK s r.1.now with
      | none => rfl
      | some _ => rw [hq] at hn; cases hn
    rw [if_pos hn'] at k
    exact k zs1 _ W hz1 ⟨rfl⟩ hnil
  rw [if_neg (by intro hq; rw [hq] at hn; cases hn)] at k
  obtain ⟨b, nb, db, pv, ev, E, c, zs3, rfl, _, hr, hm, hg, hzz⟩ := freezeD (v := v) h
  refine a_nil (a_fld0 (w_ldR hr rfl ?_))
  obtain ⟨x, hx, hx2⟩ := run_look (P := Try.prog) (t := 66) (kt := 9) (et := 29) (k := s) (ok := false) hg hm
  refine .of hx2 ?_
  have hle := gt_le (k := s) hVr.now.srt
  have htot := hVr.now.tot
  refine bclone_spec (plBy hzz hx) (by omega) fun v2 W2 g1 g2 => ?_
  exact k zs1 v2 W2 hz1 (.of_own g1) (h.take g2 g1)
/-- List -/
theorem list_spec [i : Has l v (Dk zs d) R1] [j : Has R1 PoolK.a (Pl zs) R] (h : St w0 G0 l W) (hc : d.calls ≤ 300000)
    (k : ∀ zs' v' W', (∀ z ∈ zs, z ∈ zs') → Cel1 v' → St w0 G0 (Ky v' (Ow 9 1 d.listP.2.1.length (d.listP.2.1.map strV)) :: Ky v (Dk zs' d.listP.1) :: Ky PoolK.a (Pl zs') :: R) W' → RR (.tuple #[v', .int .i64 d.listP.2.2]) W') : CallF Try.prog 49 #[v] W RR := by
  refine sh49_calls ?_
  unfold sh49
  replace h := has2 (k := v) (k' := PoolK.a) h
  have hV := (dkV (v := v) h).1
  have hnil : St w0 G0 (Ky (.slice none 0 0 : Value) (Ow 9 1 0 []) :: _) W := h.nilOw
  refine call_spec (v := v) (a1 := .slice none 0 0) (ns := []) hnil (by omega) (by simp) fun zs1 W hz1 h => ?_
  have hVr := hV.call []
  have hcl := (call_calls d []).1
  unfold Dd.listP at k
  generalize d.call [] = r at *
  dsimp only at k
  refine a_ext0 (a_ext1 ?_)
  refine w_neq (ifd (fun he => ?_) fun he => ?_)
  · rw [if_pos he] at k
    have hnil : St w0 G0 (Ky (.slice none 0 0 : Value) (Ow 9 1 0 []) :: _) W := h.nilOw
    exact k zs1 _ W hz1 ⟨rfl⟩ hnil
  rw [if_neg he] at k
  obtain ⟨b, nb, db, pv, ev, E, c, zs3, rfl, _, hr, hm, hg, hzz⟩ := freezeD (v := v) h
  have hlen := hVr.lenN
  refine a_nil (a_fld0 (w_ldR hr rfl ?_))
  refine sh45_calls ?_
  unfold sh45
  refine (St.start W).boxV fun b1 W1 h1 => ?_
  refine v_func ?_
  refine sorted_spec (b := b1) (l := []) hm hg (by omega) h1 fun sv2 W2 o h2 => ?_
  exact k zs1 sv2 W2 hz1 o (h.frame1 h2)

/-! ### the document's -/
theorem readx_spec [i : Has l v (Xk zs d) R1] [j : Has R1 PoolK.a (Pl zs) R] (h : St w0 G0 l W) (hc : d.calls ≤ 300000) (hs : s.length ≤ 1000000000)
    (k : ∀ zs' v' W', (∀ z ∈ zs, z ∈ zs') → Cel1 v' → St w0 G0 (Ky v' (BO (d.readP s).2.1) :: Ky v (Xk zs' (d.readP s).1) :: Ky PoolK.a (Pl zs') :: R) W' → RR (.tuple #[v', .int .i64 (d.readP s).2.2]) W') : CallF Try.prog 48 #[v, strV s] W RR := by
  refine sh48_calls ?_
  unfold sh48
  have hV := (xkV (v := v) h).1
  refine begin_spec (v := v) (named := true) h hc hs fun zs1 W hz1 h => ?_
  rw [if_pos rfl] at h ⊢
  have hVr := hV.call [s]
  have hcl := (call_calls d [s]).1
  unfold Dd.readP at k
  generalize d.call [s] = r at *
  dsimp only at k
  refine a_ext0 (a_ext1 ?_)
  have hnil : St w0 G0 (Ky (.slice none 0 0 : Value) (BO []) :: _) W := h.nilOw
  refine w_neq (ifd (fun he => ?_) fun he => ?_)
  · rw [if_pos he] at k
    exact k zs1 _ W hz1 ⟨rfl⟩ hnil
  rw [if_neg he] at k
  have he0 : r.2.2 = 0 := by simpa using he
  obtain ⟨b, nv, sv, pv, ev, fs, rfl, _, hr, hs2, hf, hk⟩ := freezeX (v := v) h
  have hl := xlen hVr hf
  refine a_nil (a_fld0 (w_ldR hr rfl ?_))
  refine find_spec (s := s) hs2 rfl (by omega) fun n h1 h2 => ?_
  rw [hf] at h1 h2
  refine a_lss (ifd (fun hn => ?_) fun hn => ?_)
  · rw [if_pos (h1 hn)] at k
    exact k zs1 _ W hz1 ⟨rfl⟩ hnil
  obtain ⟨p, _, hg⟩ := h2 (by omega)
  rw [if_neg (by rw [hg]; simp)] at k
  refine a_nil (a_fld0 (w_ldR hr rfl ?_))
  refine data_spec (s := s) hs2 rfl (by omega) (zsF_fk fs) fun v1 hv1 => ?_
  rw [hf] at hv1
  have hle := gt_le (k := s) hVr.now.srt
  have htot := hVr.now.tot
  refine copyBytes_spec (plBy (zsF_by hk) hv1) (by omega) fun v2 W2 g1 g2 => ?_
  rw [he0]
  exact k zs1 v2 W2 hz1 (.of_own g1) (h.take g2 g1)
theorem listx_spec [i : Has l v (Xk zs d) R1] [j : Has R1 PoolK.a (Pl zs) R] (h : St w0 G0 l W) (hc : d.calls ≤ 300000)
    (k : ∀ zs' v' W', (∀ z ∈ zs, z ∈ zs') → Cel1 v' → St w0 G0 (Ky v' (Ow 9 1 d.listP.2.1.length (d.listP.2.1.map strV)) :: Ky v (Xk zs' d.listP.1) :: Ky PoolK.a (Pl zs') :: R) W' → RR (.tuple #[v', .int .i64 d.listP.2.2]) W') : CallF Try.prog 50 #[v] W RR := by
  refine sh50_calls ?_
  unfold sh50
  refine begin_spec (v := v) (s := []) (named := false) h hc (by simp) fun zs1 W hz1 h => ?_
  rw [if_neg (by simp)] at h ⊢
  have hcl := (call_calls d []).1
  unfold Dd.listP at k
  generalize d.call [] = r at *
  dsimp only at k
  refine a_ext0 (a_ext1 ?_)
  refine w_neq (ifd (fun he => ?_) fun he => ?_)
  · rw [if_pos he] at k
    have hnil : St w0 G0 (Ky (.slice none 0 0 : Value) (Ow 9 1 0 []) :: _) W := h.nilOw
    exact k zs1 _ W hz1 ⟨rfl⟩ hnil
  rw [if_neg he] at k
  have he0 : r.2.2 = 0 := by simpa using he
  refine namesx_spec (freezeX (v := v) h) (by omega) fun v1 W1 o1 h1 => ?_
  rw [he0]
  exact k zs1 v1 W1 hz1 o1 (h.frame1 h1)
theorem appendx_spec {b : Txt} {bv : Value} [i : Has l v (Xk zs d) R1] [j : Has R1 PoolK.a (Pl zs) R] (h : St w0 G0 l W) (hc : d.calls ≤ 300000) (hs : s.length ≤ 1000000000) (hb : By w0 bv b) (hbl : b.length ≤ 1000000000)
    (k : ∀ zs' W', (∀ z ∈ zs, z ∈ zs') → St w0 G0 (Ky v (Xk zs' (d.appendP s b).1) :: Ky PoolK.a (Pl zs') :: R) W' → RR (.int .i64 (d.appendP s b).2) W') : CallF Try.prog 51 #[v, strV s, bv] W RR := by
  refine sh51_calls ?_
  unfold sh51
  have hV := (xkV (v := v) h).1
  refine begin_spec (v := v) (named := true) h hc hs fun zs1 W hz1 h => ?_
  rw [if_pos rfl] at h ⊢
  have hVr := hV.call [s]
  have hl1 := call_V1 hV [s]
  have hcl := (call_calls d [s]).1
  unfold Dd.appendP at k
  generalize d.call [s] = r at *
  dsimp only at k
  refine a_ext0 (a_ext1 ?_)
  refine w_neq (ifd (fun he => ?_) fun he => ?_)
  · rw [if_pos he] at k
    exact k zs1 W hz1 h
  rw [if_neg he] at k
  replace h := h.drew
  obtain ⟨bx, nv, sv, pv, ev, fs, rfl, _, hr, hs2, hf, hk⟩ := freezeX (v := v) h
  have hl := xlen hVr hf
  have h0 := hVr.room0
  have h1 := hVr.room1
  have htot := hVr.now.tot
  refine ⟨fun W' => Rec W' bx 88 [.int .i64 r.1.room, nv, sv, pv, ev, .int .i64 (r.1.calls : Int), .bool r.1.down], hr, ?_⟩
  refine ifb (fun hfl => ?_) fun hfl => ?_
  · rw [if_pos (.inl hfl)] at k
    exact k zs1 _ hz1 h
  refine a_nil (a_fld0 (s_ld (fun w hw => hw) rfl (x_lenSs hb (a_nil (a_fld0 (s_ld (fun w hw => hw) rfl ?_))))))
  refine usedx_spec hs2 rfl (by omega) (by rw [hf]; exact htot) hk ?_
  rw [hf]
  refine ⟨hr, ?_⟩
  refine a_add64 (by omega) (by omega) (a_gtr (ifd (fun hgt => ?_) fun hgt => ?_))
  · rw [if_pos (.inr (by omega))] at k
    exact k zs1 _ hz1 h
  rw [if_neg (by rintro (hx | hx); · { rw [hfl] at hx; cases hx }; · omega)] at k
  refine jni (fun vs W' => vs = [] ∧ RR (.int .i64 0) W') ?_ ?_
  · rintro vs W' _ ⟨rfl, hq⟩
    exact app0 hq
  have doit : ¬ (b = [] ∧ (getK s r.1.now).isSome = true) → CallF Try.prog 16 #[bv] _ fun t52 w => RunV Try.prog (Instr.build 105 #[(0, .int .i64 1), (2, strV s), (4, t52)]) w fun t53 w => CallF Try.prog 78 #[.pointer (some ⟨bx, 0, none⟩), t53] w fun t54 w => lamN 0 (fun vs W' => vs = [] ∧ RR (.int .i64 0) W') w := fun hno => by
    rw [if_neg hno] at k
    refine copyBytes_spec (Sl.below hb h.low) (by omega) fun v2 W2 g1 g2 => ?_
    replace h := h.take g2 g1
    obtain ⟨sv2, rfl⟩ := (show By W2 v2 b from h.osl (v := v2)).sv
    refine x_bld (cells := (opxC (.puts s b, sv2)).toArray) rfl ?_
    replace h := h.plAdd .a (v := svV sv2) (x := b) rfl rfl
    replace h := upX (v := (.pointer (some ⟨bx, 0, none⟩) : Value)) h (subZ (z := (svV sv2, b)))
    refine change_spec (v := (.pointer (some ⟨bx, 0, none⟩) : Value)) (c := .puts s b) (sv0 := sv2) h ?_ (.inl List.mem_cons_self) hl1 (by omega) fun zs2 W4 hz2 h => ?_
    · show tot r.1.now + b.length ≤ 1073741824
      omega
    · exact ⟨rfl, k zs2 W4 (fun z hz => hz2 z (subZ z (hz1 z hz))) h⟩
  refine x_lenS hb (a_gtr (ifd (fun hb0 => doit (fun hx => by rw [hx.1] at hb0; simp at hb0)) fun hb0 => ?_))
  have hbn : b = [] := List.eq_nil_of_length_eq_zero (by omega)
  refine a_nil (a_fld0 (w_ldR hr rfl ?_))
  refine find_spec (s := s) hs2 rfl (by omega) fun n g1 g2 => ?_
  rw [hf] at g1 g2
  refine a_lss (ifd (fun hn => doit (fun hx => by rw [g1 hn] at hx; cases hx.2)) fun hn => ?_)
  obtain ⟨p, _, hg⟩ := g2 (by omega)
  rw [if_pos ⟨hbn, by rw [hg]; rfl⟩] at k
  exact ⟨rfl, k zs1 _ hz1 h⟩
theorem cutx_spec {n : Int} [i : Has l v (Xk zs d) R1] [j : Has R1 PoolK.a (Pl zs) R] (h : St w0 G0 l W) (hc : d.calls ≤ 300000) (hs : s.length ≤ 1000000000)
    (k : ∀ zs' W', (∀ z ∈ zs, z ∈ zs') → St w0 G0 (Ky v (Xk zs' (d.cutP s n).1) :: Ky PoolK.a (Pl zs') :: R) W' → RR (.int .i64 (d.cutP s n).2) W') : CallF Try.prog 52 #[v, strV s, .int .i64 n] W RR := by
  refine sh52_calls ?_
  unfold sh52
  have hV := (xkV (v := v) h).1
  refine begin_spec (v := v) (named := true) h hc hs fun zs1 W hz1 h => ?_
  rw [if_pos rfl] at h ⊢
  have hVr := hV.call [s]
  have hl1 := call_V1 hV [s]
  have hcl := (call_calls d [s]).1
  unfold Dd.cutP at k
  generalize d.call [s] = r at *
  dsimp only at k
  refine a_ext0 (a_ext1 ?_)
  refine w_neq (ifd (fun he => ?_) fun he => ?_)
  · rw [if_pos he] at k
    exact k zs1 W hz1 h
  rw [if_neg he] at k
  obtain ⟨bx, nv, sv, pv, ev, fs, rfl, _, hr, hs2, hf, hk⟩ := freezeX (v := v) h
  have hl := xlen hVr hf
  refine a_nil (a_fld0 (w_ldR hr rfl ?_))
  refine find_spec (s := s) hs2 rfl (by omega) fun q g1 g2 => ?_
  rw [hf] at g1 g2
  refine a_lss (ifd (fun hn => ?_) fun hn => ?_)
  · rw [if_pos (g1 hn)] at k
    exact k zs1 _ hz1 h
  obtain ⟨p, _, hg⟩ := g2 (by omega)
  rw [if_neg (by rw [hg]; simp)] at k
  refine a_lss (ifd (fun h0 => ?_) fun h0 => ?_)
  · rw [if_pos (.inl h0)] at k
    exact k zs1 _ hz1 h
  refine a_nil (a_fld0 (w_ldR hr rfl ?_))
  refine data_spec (s := s) hs2 rfl (by omega) (zsF_fk fs) fun v1 hv1 => ?_
  rw [hf] at hv1
  refine x_lenS (plBy (zsF_by hk) hv1) ?_
  refine a_gtr (ifd (fun h1 => ?_) fun h1 => ?_)
  · rw [if_pos (.inr h1)] at k
    exact k zs1 _ hz1 h
  rw [if_neg (fun hx => hx.elim h0 h1)] at k
  refine jni (fun vs W' => vs = [] ∧ RR (.int .i64 0) W') ?_ ?_
  · rintro vs W' _ ⟨rfl, hq⟩
    exact app0 hq
  refine a_nil (a_fld0 (w_ldR hr rfl ?_))
  refine data_spec (s := s) hs2 rfl (by omega) (zsF_fk fs) fun v2 hv2 => ?_
  rw [hf] at hv2
  refine x_lenS (plBy (zsF_by hk) hv2) ?_
  refine a_lss (ifd (fun h2 => ?_) fun h2 => ?_)
  · rw [if_neg (by omega)] at k
    obtain ⟨m, rfl⟩ := Int.eq_ofNat_of_zero_le (by omega : 0 ≤ n)
    refine x_bld (cells := (opxC (.cuts s m, ((none, 0, 0) : Sv))).toArray) rfl ?_
    refine change_spec (v := (.pointer (some ⟨bx, 0, none⟩) : Value)) (c := .cuts s m) (sv0 := (none, 0, 0)) h ?_ trivial hl1 (by omega) fun zs2 W4 hz2 h => ?_
    · show m ≤ (gt s r.1.now).length
      omega
    · exact ⟨rfl, k zs2 W4 (fun z hz => hz2 z (hz1 z hz)) h⟩
  · rw [if_pos (by omega)] at k
    exact ⟨rfl, k zs1 _ hz1 h⟩
theorem call_two (d : Dd) (s t : Txt) : (d.call [s, t]).1 = (d.call [s]).1 ∧ (d.call [s, t]).2.1 = (d.call [s]).2.1 ∧ (d.call [s, t]).2.2 = if (d.call [s]).2.2 ≠ 0 then (d.call [s]).2.2 else if okN t = true then 0 else 11 := by
  refine ⟨rfl, rfl, ?_⟩
  have key : ∀ q : Bool, (if q = true then (9 : Int) else if [s, t].all okN = true then 0 else 11) = if (if q = true then (9 : Int) else if [s].all okN = true then 0 else 11) ≠ 0 then (if q = true then (9 : Int) else if [s].all okN = true then 0 else 11) else if okN t = true then 0 else 11 := by
    intro q
    cases q <;> cases h1 : okN s <;> cases h2 : okN t <;> simp [h1, h2]
  exact key _
theorem renamex_spec {t : Txt} [i : Has l v (Xk zs d) R1] [j : Has R1 PoolK.a (Pl zs) R] (h : St w0 G0 l W) (hc : d.calls ≤ 300000) (hs : s.length ≤ 1000000000) (ht : t.length ≤ 1000000000)
    (k : ∀ zs' W', (∀ z ∈ zs, z ∈ zs') → St w0 G0 (Ky v (Xk zs' (d.renameP s t).1) :: Ky PoolK.a (Pl zs') :: R) W' → RR (.int .i64 (d.renameP s t).2) W') : CallF Try.prog 53 #[v, strV s, strV t] W RR := by
  refine sh53_calls ?_
  unfold sh53
  have hV := (xkV (v := v) h).1
  refine begin_spec (v := v) (named := true) h hc hs fun zs1 W hz1 h => ?_
  rw [if_pos rfl] at h ⊢
  have hVr := hV.call [s]
  have hl1 := call_V1 hV [s]
  have hcl := (call_calls d [s]).1
  obtain ⟨t1, t2, t3⟩ := call_two d s t
  unfold Dd.renameP at k
  dsimp only at k
  rw [t1, t3] at k
  generalize d.call [s] = r at *
  refine a_ext0 (a_ext1 ?_)
  refine w_neq (ifd (fun he => ?_) fun he => ?_)
  · rw [if_pos he, if_pos he] at k
    exact k zs1 W hz1 h
  rw [if_neg he] at k
  refine namex_spec ht ?_
  refine a_not (ifnb (fun hx => ?_) fun hx => ?_)
  · have e1 : (if okN t = true then (0 : Int) else 11) = 11 := by rw [hx]; rfl
    rw [e1, if_pos (by decide)] at k
    exact k zs1 W hz1 h
  have e1 : (if okN t = true then (0 : Int) else 11) = 0 := by rw [hx]; rfl
  rw [e1, if_neg (by decide)] at k
  obtain ⟨bx, nv, sv, pv, ev, fs, rfl, _, hr, hs2, hf, hk⟩ := freezeX (v := v) h
  have hl := xlen hVr hf
  refine a_nil (a_fld0 (w_ldR hr rfl ?_))
  refine find_spec (s := s) hs2 rfl (by omega) fun q g1 g2 => ?_
  rw [hf] at g1 g2
  refine a_lss (ifd (fun hn => ?_) fun hn => ?_)
  · rw [if_pos (g1 hn)] at k
    exact k zs1 _ hz1 h
  obtain ⟨p, _, hg⟩ := g2 (by omega)
  rw [if_neg (by rw [hg]; simp)] at k
  refine jni (fun vs W' => vs = [] ∧ RR (.int .i64 0) W') ?_ ?_
  · rintro vs W' _ ⟨rfl, hq⟩
    exact app0 hq
  refine w_neqL (ifd (fun h2 => ?_) fun h2 => ?_)
  · rw [if_neg h2] at k
    refine x_bld (cells := (opxC (.names s t, ((none, 0, 0) : Sv))).toArray) rfl ?_
    refine change_spec (v := (.pointer (some ⟨bx, 0, none⟩) : Value)) (c := .names s t) (sv0 := (none, 0, 0)) h trivial trivial hl1 (by omega) fun zs2 W4 hz2 h => ?_
    exact ⟨rfl, k zs2 W4 (fun z hz => hz2 z (hz1 z hz)) h⟩
  · rw [if_pos (by simpa using h2)] at k
    exact ⟨rfl, k zs1 _ hz1 h⟩
theorem deletex_spec [i : Has l v (Xk zs d) R1] [j : Has R1 PoolK.a (Pl zs) R] (h : St w0 G0 l W) (hc : d.calls ≤ 300000) (hs : s.length ≤ 1000000000)
    (k : ∀ zs' W', (∀ z ∈ zs, z ∈ zs') → St w0 G0 (Ky v (Xk zs' (d.deleteP s).1) :: Ky PoolK.a (Pl zs') :: R) W' → RR (.int .i64 (d.deleteP s).2) W') : CallF Try.prog 54 #[v, strV s] W RR := by
  refine sh54_calls ?_
  unfold sh54
  have hV := (xkV (v := v) h).1
  refine begin_spec (v := v) (named := true) h hc hs fun zs1 W hz1 h => ?_
  rw [if_pos rfl] at h ⊢
  have hVr := hV.call [s]
  have hl1 := call_V1 hV [s]
  have hcl := (call_calls d [s]).1
  unfold Dd.deleteP at k
  generalize d.call [s] = r at *
  dsimp only at k
  refine a_ext0 (a_ext1 ?_)
  refine w_neq (ifd (fun he => ?_) fun he => ?_)
  · rw [if_pos he] at k
    exact k zs1 W hz1 h
  rw [if_neg he] at k
  have he0 : r.2.2 = 0 := by simpa using he
  obtain ⟨bx, nv, sv, pv, ev, fs, rfl, _, hr, hs2, hf, hk⟩ := freezeX (v := v) h
  have hl := xlen hVr hf
  refine a_nil (a_fld0 (w_ldR hr rfl ?_))
  refine find_spec (s := s) hs2 rfl (by omega) fun q g1 g2 => ?_
  rw [hf] at g1 g2
  refine a_lss (ifd (fun hn => ?_) fun hn => ?_)
  · rw [if_pos (g1 hn)] at k
    exact k zs1 _ hz1 h
  obtain ⟨p, _, hg⟩ := g2 (by omega)
  rw [if_neg (by rw [hg]; simp)] at k
  refine x_bld (cells := (opxC (.takes s, ((none, 0, 0) : Sv))).toArray) rfl ?_
  refine change_spec (v := (.pointer (some ⟨bx, 0, none⟩) : Value)) (c := .takes s) (sv0 := (none, 0, 0)) h trivial trivial hl1 (by omega) fun zs2 W4 hz2 h => ?_
  rw [he0]
  exact k zs2 W4 (fun z hz => hz2 z (hz1 z hz)) h
theorem syncx_spec [i : Has l v (Xk zs d) R1] [j : Has R1 PoolK.a (Pl zs) R] (h : St w0 G0 l W) (hc : d.calls ≤ 300000)
    (k : ∀ zs' W', (∀ z ∈ zs, z ∈ zs') → St w0 G0 (Ky v (Xk zs' d.syncP.1) :: Ky PoolK.a (Pl zs') :: R) W' → RR (.int .i64 d.syncP.2) W') : CallF Try.prog 55 #[v] W RR := by
  refine sh55_calls ?_
  unfold sh55
  have hV := (xkV (v := v) h).1
  have hVs := hV.syncP
  refine begin_spec (v := v) (s := []) (named := false) h hc (by simp) fun zs1 W hz1 h => ?_
  rw [if_neg (by simp)] at h ⊢
  have hVr := hV.call []
  have hcl := (call_calls d []).1
  unfold Dd.syncP at k hVs
  generalize d.call [] = r at *
  dsimp only at k hVs
  refine a_ext0 (a_ext1 ?_)
  refine jni (fun vs W' => ∃ e, vs = [.int .i64 e] ∧ RR (.int .i64 e) W') ?_ ?_
  · rintro vs W' _ ⟨e, rfl, hq⟩
    exact app1 hq
  refine w_eql (ifd (fun he => ?_) fun he => ?_)
  · rw [if_neg (fun hx => hx he)] at k hVs
    obtain ⟨b, nv, sv, pv, ev, fs, gs, ps, rfl, hV2, hf, hgg, hps, hcks, ⟨o1, o2, o3, o4⟩, h3⟩ := openX (v := v) h
    clear h
    have h := h3
    clear h3
    have hl := xlen hVr hf.1
    refine h.lit (vs := []) (cs := []) (fun u W o h => ?_) (by decide)
    (repeat (first | (with_reducible refine ift ?_) | (with_reducible refine iff' ?_) | (with_reducible refine a_lss ?_) | (with_reducible refine a_leq ?_) | (with_reducible refine a_gtr ?_) | (with_reducible refine a_geq ?_) | (with_reducible refine w_eql ?_) | (with_reducible refine w_neq ?_) | (with_reducible refine s_eql ?_) | (with_reducible refine s_neq ?_) | ((with_reducible refine a_add64 ?h0 ?h1 ?_); (case h0 => omega); (case h1 => omega);  skip) | ((with_reducible refine a_sub64 ?h0 ?h1 ?_); (case h0 => omega); (case h1 => omega);  skip) | ((with_reducible refine a_mul64 ?h0 ?h1 ?_); (case h0 => omega); (case h1 => omega);  skip) | (with_reducible refine a_notd ?_) | (with_reducible refine a_not ?_) | (with_reducible refine a_ext0 ?_) | (with_reducible refine a_ext1 ?_) | (with_reducible refine a_ext2 ?_) | (with_reducible refine x_len ?_) | (with_reducible refine x_lens ?_) | (with_reducible refine x_eqb ?_) | (with_reducible refine x_neb ?_) | (with_reducible refine x_nilP ?_) | (with_reducible refine x_nilPn ?_) | (with_reducible refine x_nilF ?_) | (with_reducible refine x_nilFF ?_) | (with_reducible refine w_eqlL ?_) | (with_reducible refine w_neqL ?_) | (with_reducible refine s_eqlL ?_) | (with_reducible refine ifnt ?_) | (with_reducible refine ifnf ?_) | (with_reducible refine x_eqB ?_) | (with_reducible refine x_neB ?_) | (with_reducible refine x_lssL ?_) | (with_reducible refine x_gtrL ?_) | (with_reducible refine x_geqL ?_) | (with_reducible refine s_neqL ?_) | (with_reducible refine St.load h ?_) | (with_reducible refine St.loadS h ?_) | (with_reducible refine a_fld0 ?_) | (with_reducible refine St.store h fun W h => ?_) | (with_reducible refine St.storeS h fun W h => ?_) | (with_reducible refine St.alloc h fun b W h => ?_) | (with_reducible refine St.allocS h fun b W h => ?_) | (with_reducible refine a_nil ?_) | (with_reducible refine ss_load ?_) | (with_reducible refine ss_loadS ?_) | (with_reducible refine ss_eqb ?_)))
    refine h.app (v := u) (h.osl (v := nv)) (fileC_one fs) (by unfold maxLen; omega) (by omega) fun u2 W ou2 h _ => ?_
    rw [Nat.zero_add, List.nil_append] at h
    (repeat (first | (with_reducible refine ift ?_) | (with_reducible refine iff' ?_) | (with_reducible refine a_lss ?_) | (with_reducible refine a_leq ?_) | (with_reducible refine a_gtr ?_) | (with_reducible refine a_geq ?_) | (with_reducible refine w_eql ?_) | (with_reducible refine w_neq ?_) | (with_reducible refine s_eql ?_) | (with_reducible refine s_neq ?_) | ((with_reducible refine a_add64 ?h0 ?h1 ?_); (case h0 => omega); (case h1 => omega);  skip) | ((with_reducible refine a_sub64 ?h0 ?h1 ?_); (case h0 => omega); (case h1 => omega);  skip) | ((with_reducible refine a_mul64 ?h0 ?h1 ?_); (case h0 => omega); (case h1 => omega);  skip) | (with_reducible refine a_notd ?_) | (with_reducible refine a_not ?_) | (with_reducible refine a_ext0 ?_) | (with_reducible refine a_ext1 ?_) | (with_reducible refine a_ext2 ?_) | (with_reducible refine x_len ?_) | (with_reducible refine x_lens ?_) | (with_reducible refine x_eqb ?_) | (with_reducible refine x_neb ?_) | (with_reducible refine x_nilP ?_) | (with_reducible refine x_nilPn ?_) | (with_reducible refine x_nilF ?_) | (with_reducible refine x_nilFF ?_) | (with_reducible refine w_eqlL ?_) | (with_reducible refine w_neqL ?_) | (with_reducible refine s_eqlL ?_) | (with_reducible refine ifnt ?_) | (with_reducible refine ifnf ?_) | (with_reducible refine x_eqB ?_) | (with_reducible refine x_neB ?_) | (with_reducible refine x_lssL ?_) | (with_reducible refine x_gtrL ?_) | (with_reducible refine x_geqL ?_) | (with_reducible refine s_neqL ?_) | (with_reducible refine St.load h ?_) | (with_reducible refine St.loadS h ?_) | (with_reducible refine a_fld0 ?_) | (with_reducible refine St.store h fun W h => ?_) | (with_reducible refine St.storeS h fun W h => ?_) | (with_reducible refine St.alloc h fun b W h => ?_) | (with_reducible refine St.allocS h fun b W h => ?_) | (with_reducible refine a_nil ?_) | (with_reducible refine ss_load ?_) | (with_reducible refine ss_loadS ?_) | (with_reducible refine ss_eqb ?_)))
    have h1 : St w0 G0 (Ky (.slice none 0 0 : Value) (Ow 105 5 0 []) :: _) W := h.nilOw
    refine ⟨0, by rw [he], k zs1 W hz1 (St.to (shutX (b := b) (nv := nv) (sv := u2) (pv := .slice none 0 0) (ev := ev) (fs := fs) (gs := fs) (ps := []) (zs := zs1) { r.1 with dur := r.1.now, pend := [] } h1 hVs hf hf rfl (fun p hp => (by cases hp)) rfl rfl rfl rfl rfl rfl rfl rfl rfl))⟩
  · rw [if_pos he] at k
    exact ⟨r.2.2, rfl, k zs1 W hz1 h⟩
end
end Go.Proofs.Ytdoopdbfajgnjaa
