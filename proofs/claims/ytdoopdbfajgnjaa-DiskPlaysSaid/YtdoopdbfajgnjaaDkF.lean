/-
  FILES THAT FALL: appended to, cut, renamed, deleted, made durable, copied: what each function answers.
-/
import Derived.Test.YtdoopdbfajgnjaaDkE
namespace Go.Ez
open Go Go.Proofs Go.RowKit
set_option linter.unusedSimpArgs false
set_option linter.unusedVariables false
/-- bytes that can be read as long as nothing but one's own is turned -/
def Arg (w0 : World) (G : Nat → Prop) (zs : Zs) (v : Value) (b : Txt) : Prop := ∀ zs' W' L, (∀ z ∈ zs, z ∈ zs') → St w0 G (Ky PoolK.a (Pl zs') :: L) W' → By W' v b
theorem Arg.old {w0 : World} {zs : Zs} {v : Value} {b : Txt} (h : By w0 v b) : Arg w0 G0 zs v b := fun zs' W' L _ hs => h.below hs.low
theorem Arg.pool {w0 : World} {G : Nat → Prop} {zs : Zs} {v : Value} {b : Txt} (h : PlIn zs v b) : Arg w0 G zs v b := fun zs' W' L hz hs => hs.plGet .a (h.sub hz)
theorem Arg.by' {w0 W : World} {G : Nat → Prop} {zs zs' : Zs} {v : Value} {b : Txt} {l R : List As} [i : Has l PoolK.a (Pl zs') R] (h : Arg w0 G zs v b) (hs : St w0 G l W) (hz : ∀ z ∈ zs, z ∈ zs') : By W v b := h zs' W R hz (hs.find (k := PoolK.a) (X := Pl zs'))
end Go.Ez
namespace Go.Proofs.Ytdoopdbfajgnjaa
open Go Go.Ez Go.RowKit
set_option linter.unusedSimpArgs false
set_option linter.unusedVariables false
section
variable {w0 W : World} {G : Nat → Prop} {l R R1 R2 R3 : List As} {zs zs' : Zs} {d : Dd} {v ev : Value} {RR : Value → World → Prop}
theorem append_specG {s b : Txt} {bv : Value} [i : Has l v (Dk zs d) R1] [j : Has R1 PoolK.a (Pl zs) R] (h : St w0 G l W) (hc : d.calls ≤ 1000000) (hs : s.length ≤ 1000000000) (hb : ∀ zs' W', (∀ z ∈ zs, z ∈ zs') → St w0 G (Ky v (Dk zs' (d.call [s]).1) :: Ky PoolK.a (Pl zs') :: R) W' → By W' bv b) (hbl : b.length ≤ 1000000000)
    (k : ∀ zs' W', (∀ z ∈ zs, z ∈ zs') → St w0 G (Ky v (Dk zs' (d.appendP s b).1) :: Ky PoolK.a (Pl zs') :: R) W' → RR (.int .i64 (d.appendP s b).2) W') : CallF Try.prog 14 #[v, strV s, bv] W RR := by
  refine sh14_calls ?_
  unfold sh14
  replace h := has2 (k := v) (k' := PoolK.a) h
  have hV := (dkV (v := v) h).1
  refine h.lit (vs := [strV s]) (fun u W o h => ?_) (by decide)
  refine call_spec (v := v) (a1 := u) (ns := [s]) h (by omega) (by simpa using hs) fun zs1 W hz1 h => ?_
  have hVr := hV.call [s]
  have hl1 := call_V1 hV [s]
  have hcl := (call_calls d [s]).1
  unfold Dd.appendP at k
  generalize d.call [s] = r at *
  dsimp only at k
  refine a_ext0 (a_ext1 ?_)
  refine w_neq (ifd (fun he => ?_) fun he => ?_)
  · rw [if_pos he] at k
    exact k zs1 W hz1 h
  rw [if_neg he] at k
  replace h := h.drew
  obtain ⟨_, bp, rfl⟩ := dkV (v := v) h
  have hrec : ∀ {W' : World} {L : List As}, St w0 G (Ky (.pointer (some ⟨bp, 0, none⟩) : Value) (Dk zs1 r.1) :: L) W' → ∃ c1 c2 c3 c4 c5 c6, Rec W' bp 69 [.int .i64 r.1.room, c1, c2, c3, c4, c5, c6] := fun h => by
    obtain ⟨ev, oe, h2⟩ := openD (v := (.pointer (some ⟨bp, 0, none⟩) : Value)) h
    obtain ⟨b', nb, db, pv, ps, hv, hV', hps, hcks, o1, o2, h3⟩ := openE' (v := (.pointer (some ⟨bp, 0, none⟩) : Value)) h2
    cases hv
    exact ⟨_, _, _, _, _, _, h3.rc⟩
  refine ⟨fun W' => (∃ c1 c2 c3 c4 c5 c6, Rec W' bp 69 [.int .i64 r.1.room, c1, c2, c3, c4, c5, c6]), hrec h, ?_⟩
  refine ifb (fun hf => ?_) fun hf => ?_
  · rw [if_pos (.inl hf)] at k
    exact k zs1 _ hz1 h
  refine x_lenSs (hb zs1 _ hz1 h) (a_nil (a_fld0 (s_of (v := .int .i64 r.1.room) (fun w hw => by
    obtain ⟨c1, c2, c3, c4, c5, c6, hr⟩ := hw
    exact w_ldR hr rfl rfl) ?_)))
  refine used_spec (freezeD (v := (.pointer (some ⟨bp, 0, none⟩) : Value)) h) fun W1 hb1 => ?_
  replace h := h.ext hb1
  refine ⟨hrec h, ?_⟩
  have h0 := hVr.room0
  have h1 := hVr.room1
  have h2 := hVr.now.tot
  refine a_sub64 (by omega) (by omega) ?_
  refine a_gtr (ifd (fun hgt => ?_) fun hgt => ?_)
  · rw [if_pos (.inr hgt)] at k
    exact k zs1 _ hz1 h
  rw [if_neg (by rintro (hx | hx); · { rw [hf] at hx; cases hx }; · exact hgt hx)] at k
  refine jni (fun vs W' => vs = [.pointer (some ⟨bp, 0, none⟩), strV s, bv] ∧ W' = W1 ∧ ¬ (b = [] ∧ (getK s r.1.now).isSome)) ?_ ?_
  · rintro vs W2 _ ⟨rfl, rfl, hno⟩
    rw [if_neg hno] at k
    refine app3 ?_
    refine bclone_spec (hb zs1 _ hz1 h) (by omega) fun v1 W3 g1 g2 => ?_
    replace h := h.take g2 g1
    obtain ⟨sv, rfl⟩ := (show By W3 v1 b from h.osl (v := v1)).sv
    refine x_bld (cells := (chC (.puts s b, sv)).toArray) rfl ?_
    replace h := h.plAdd .a (v := svV sv) (x := b) rfl rfl
    replace h := upD (v := (.pointer (some ⟨bp, 0, none⟩) : Value)) h (subZ (z := (svV sv, b)))
    refine does_spec (v := (.pointer (some ⟨bp, 0, none⟩) : Value)) (c := .puts s b) (s := sv) h ?_ (.inl List.mem_cons_self) hl1 (by omega) fun zs2 W4 hz2 h => ?_
    · show tot r.1.now + b.length ≤ 1073741824
      omega
    · exact k zs2 W4 (fun z hz => hz2 z (subZ z (hz1 z hz))) h
  · refine x_lenS (hb zs1 _ hz1 h) ?_
    refine w_eql (ifd (fun hb0 => ?_) fun hb0 => ?_)
    · refine there_spec (s := s) (freezeD (v := (.pointer (some ⟨bp, 0, none⟩) : Value)) h) ?_
      have hbn : b = [] := List.eq_nil_of_length_eq_zero (by omega)
      refine ifb (fun ht => ?_) fun ht => ?_
      · rw [if_pos ⟨hbn, ht⟩] at k
        exact k zs1 W1 hz1 h
      · exact ⟨rfl, rfl, fun hx => by rw [hx.2] at ht; cases ht⟩
    · exact ⟨rfl, rfl, fun hx => by rw [hx.1] at hb0; exact hb0 rfl⟩
theorem append_spec {s b : Txt} {bv : Value} [i : Has l v (Dk zs d) R1] [j : Has R1 PoolK.a (Pl zs) R] (h : St w0 G l W) (hc : d.calls ≤ 1000000) (hs : s.length ≤ 1000000000) (hb : Arg w0 G zs bv b) (hbl : b.length ≤ 1000000000)
    (k : ∀ zs' W', (∀ z ∈ zs, z ∈ zs') → St w0 G (Ky v (Dk zs' (d.appendP s b).1) :: Ky PoolK.a (Pl zs') :: R) W' → RR (.int .i64 (d.appendP s b).2) W') : CallF Try.prog 14 #[v, strV s, bv] W RR :=
  append_specG h hc hs (fun zs' W' hz h => hb.by' h hz) hbl k
theorem cut_spec {s : Txt} {n : Int} [i : Has l v (Dk zs d) R1] [j : Has R1 PoolK.a (Pl zs) R] (h : St w0 G l W) (hc : d.calls ≤ 1000000) (hs : s.length ≤ 1000000000)
    (k : ∀ zs' W', (∀ z ∈ zs, z ∈ zs') → St w0 G (Ky v (Dk zs' (d.cutP s n).1) :: Ky PoolK.a (Pl zs') :: R) W' → RR (.int .i64 (d.cutP s n).2) W') : CallF Try.prog 18 #[v, strV s, .int .i64 n] W RR := by
  refine sh18_calls ?_
  unfold sh18
  replace h := has2 (k := v) (k' := PoolK.a) h
  have hV := (dkV (v := v) h).1
  refine h.lit (vs := [strV s]) (fun u W o h => ?_) (by decide)
  refine call_spec (v := v) (a1 := u) (ns := [s]) h (by omega) (by simpa using hs) fun zs1 W hz1 h => ?_
  have hVr := hV.call [s]
  have hl1 := call_V1 hV [s]
  have hcl := (call_calls d [s]).1
  unfold Dd.cutP at k
  generalize d.call [s] = r at *
  dsimp only at k
  refine a_ext0 (a_ext1 ?_)
  refine w_neq (ifd (fun he => ?_) fun he => ?_)
  · rw [if_pos he] at k
    exact k zs1 W hz1 h
  rw [if_neg he] at k
  have hfz := freezeD (v := v) h
  obtain ⟨_, bp, rfl⟩ := dkV (v := v) h
  obtain ⟨b', nb, db, pv, ev, E, c, zs3, hv, _, hr, hm, hg, hzz⟩ := id hfz
  cases hv
  refine a_nil (a_fld0 (w_ldR hr rfl ?_))
  obtain ⟨x, hx, hx2⟩ := run_look (P := Try.prog) (t := 66) (kt := 9) (et := 29) (k := s) (ok := false) hg hm
  refine .of hx2 ?_
  refine x_lenS (plBy hzz hx) ?_
  refine there_spec (s := s) hfz ?_
  refine a_not (ifnb (fun hn => ?_) fun hn => ?_)
  · have hn' : getK s r.1.now = none := by
      cases hq : getK s r.1.now with
      | none => rfl
      | some _ => rw [hq] at hn; cases hn
    rw [if_pos hn'] at k
    exact k zs1 W hz1 h
  rw [if_neg (by intro hq; rw [hq] at hn; cases hn)] at k
  refine a_lss (ifd (fun h0 => ?_) fun h0 => ?_)
  · rw [if_pos (.inl h0)] at k
    exact k zs1 W hz1 h
  refine a_gtr (ifd (fun h1 => ?_) fun h1 => ?_)
  · rw [if_pos (.inr h1)] at k
    exact k zs1 W hz1 h
  rw [if_neg (fun hx => hx.elim h0 h1)] at k
  refine w_eql (ifd (fun h2 => ?_) fun h2 => ?_)
  · rw [if_pos h2] at k
    exact k zs1 W hz1 h
  rw [if_neg h2] at k
  obtain ⟨m, rfl⟩ := Int.eq_ofNat_of_zero_le (by omega : 0 ≤ n)
  refine x_bld (cells := (chC (.cuts s m, ((none, 0, 0) : Sv))).toArray) rfl ?_
  refine does_spec (v := (.pointer (some ⟨bp, 0, none⟩) : Value)) (c := .cuts s m) (s := (none, 0, 0)) h ?_ trivial hl1 (by omega) fun zs2 W4 hz2 h => ?_
  · show m ≤ (gt s r.1.now).length
    omega
  · exact k zs2 W4 (fun z hz => hz2 z (hz1 z hz)) h
theorem rename_spec {s t : Txt} [i : Has l v (Dk zs d) R1] [j : Has R1 PoolK.a (Pl zs) R] (h : St w0 G l W) (hc : d.calls ≤ 1000000) (hs : s.length ≤ 1000000000) (ht : t.length ≤ 1000000000)
    (k : ∀ zs' W', (∀ z ∈ zs, z ∈ zs') → St w0 G (Ky v (Dk zs' (d.renameP s t).1) :: Ky PoolK.a (Pl zs') :: R) W' → RR (.int .i64 (d.renameP s t).2) W') : CallF Try.prog 22 #[v, strV s, strV t] W RR := by
  refine sh22_calls ?_
  unfold sh22
  replace h := has2 (k := v) (k' := PoolK.a) h
  have hV := (dkV (v := v) h).1
  refine h.lit (vs := [strV s, strV t]) (fun u W o h => ?_) (by decide)
  refine call_spec (v := v) (a1 := u) (ns := [s, t]) h (by omega) (by intro q hq; simp only [List.mem_cons, List.not_mem_nil, or_false] at hq; rcases hq with rfl | rfl <;> omega) fun zs1 W hz1 h => ?_
  have hVr := hV.call [s, t]
  have hl1 := call_V1 hV [s, t]
  have hcl := (call_calls d [s, t]).1
  unfold Dd.renameP at k
  generalize d.call [s, t] = r at *
  dsimp only at k
  refine a_ext0 (a_ext1 ?_)
  refine w_neq (ifd (fun he => ?_) fun he => ?_)
  · rw [if_pos he] at k
    exact k zs1 W hz1 h
  rw [if_neg he] at k
  refine there_spec (s := s) (freezeD (v := v) h) ?_
  refine a_not (ifnb (fun hn => ?_) fun hn => ?_)
  · have hn' : getK s r.1.now = none := by
      cases hq : getK s r.1.now with
      | none => rfl
      | some _ => rw [hq] at hn; cases hn
    rw [if_pos hn'] at k
    exact k zs1 W hz1 h
  rw [if_neg (by intro hq; rw [hq] at hn; cases hn)] at k
  refine w_eqlL (ifd (fun h2 => ?_) fun h2 => ?_)
  · rw [if_pos h2] at k
    exact k zs1 W hz1 h
  rw [if_neg h2] at k
  refine x_bld (cells := (chC (.names s t, ((none, 0, 0) : Sv))).toArray) rfl ?_
  refine does_spec (v := v) (c := .names s t) (s := (none, 0, 0)) h trivial trivial hl1 (by omega) fun zs2 W4 hz2 h => ?_
  exact k zs2 W4 (fun z hz => hz2 z (hz1 z hz)) h
theorem delete_spec {s : Txt} [i : Has l v (Dk zs d) R1] [j : Has R1 PoolK.a (Pl zs) R] (h : St w0 G l W) (hc : d.calls ≤ 1000000) (hs : s.length ≤ 1000000000)
    (k : ∀ zs' W', (∀ z ∈ zs, z ∈ zs') → St w0 G (Ky v (Dk zs' (d.deleteP s).1) :: Ky PoolK.a (Pl zs') :: R) W' → RR (.int .i64 (d.deleteP s).2) W') : CallF Try.prog 25 #[v, strV s] W RR := by
  refine sh25_calls ?_
  unfold sh25
  replace h := has2 (k := v) (k' := PoolK.a) h
  have hV := (dkV (v := v) h).1
  refine h.lit (vs := [strV s]) (fun u W o h => ?_) (by decide)
  refine call_spec (v := v) (a1 := u) (ns := [s]) h (by omega) (by simpa using hs) fun zs1 W hz1 h => ?_
  have hVr := hV.call [s]
  have hl1 := call_V1 hV [s]
  have hcl := (call_calls d [s]).1
  unfold Dd.deleteP at k
  generalize d.call [s] = r at *
  dsimp only at k
  refine a_ext0 (a_ext1 ?_)
  refine w_neq (ifd (fun he => ?_) fun he => ?_)
  · rw [if_pos he] at k
    exact k zs1 W hz1 h
  rw [if_neg he] at k
  refine there_spec (s := s) (freezeD (v := v) h) ?_
  refine a_not (ifnb (fun hn => ?_) fun hn => ?_)
  · have hn' : getK s r.1.now = none := by
      cases hq : getK s r.1.now with
      | none => rfl
      | some _ => rw [hq] at hn; cases hn
    rw [if_pos hn'] at k
    exact k zs1 W hz1 h
  rw [if_neg (by intro hq; rw [hq] at hn; cases hn)] at k
  refine x_bld (cells := (chC (.takes s, ((none, 0, 0) : Sv))).toArray) rfl ?_
  refine does_spec (v := v) (c := .takes s) (s := (none, 0, 0)) h trivial trivial hl1 (by omega) fun zs2 W4 hz2 h => ?_
  exact k zs2 W4 (fun z hz => hz2 z (hz1 z hz)) h
theorem sync_spec [i : Has l v (Dk zs d) R1] [j : Has R1 PoolK.a (Pl zs) R] (h : St w0 G l W) (hc : d.calls ≤ 1000000)
    (k : ∀ zs' W', (∀ z ∈ zs, z ∈ zs') → St w0 G (Ky v (Dk zs' d.syncP.1) :: Ky PoolK.a (Pl zs') :: R) W' → RR (.int .i64 d.syncP.2) W') : CallF Try.prog 26 #[v] W RR := by
  refine sh26_calls ?_
  unfold sh26
  replace h := has2 (k := v) (k' := PoolK.a) h
  have hV := (dkV (v := v) h).1
  have hVs := hV.syncP
  have hnil : St w0 G (Ky (.slice none 0 0 : Value) (Ow 9 1 0 []) :: _) W := h.nilOw
  refine call_spec (v := v) (a1 := .slice none 0 0) (ns := []) hnil (by omega) (by simp) fun zs1 W hz1 h => ?_
  unfold Dd.syncP at k hVs
  generalize d.call [] = r at *
  dsimp only at k hVs
  refine a_ext0 (a_ext1 ?_)
  refine w_neq (ifd (fun he => ?_) fun he => ?_)
  · rw [if_pos he] at k
    exact k zs1 W hz1 h
  rw [if_neg he] at k hVs
  obtain ⟨ev, oe, h2⟩ := openD (v := v) h
  obtain ⟨b, nb, db, pv, ps, hv, hV, hps, hcks, o1, o2, h3⟩ := openE' (v := v) h2
  subst hv
  replace h := h3
  clear h2 h3
  (repeat (first | (with_reducible refine ift ?_) | (with_reducible refine iff' ?_) | (with_reducible refine a_lss ?_) | (with_reducible refine a_leq ?_) | (with_reducible refine a_gtr ?_) | (with_reducible refine a_geq ?_) | (with_reducible refine w_eql ?_) | (with_reducible refine w_neq ?_) | (with_reducible refine s_eql ?_) | (with_reducible refine s_neq ?_) | ((with_reducible refine a_add64 ?h0 ?h1 ?_); (case h0 => omega); (case h1 => omega);  skip) | ((with_reducible refine a_sub64 ?h0 ?h1 ?_); (case h0 => omega); (case h1 => omega);  skip) | ((with_reducible refine a_mul64 ?h0 ?h1 ?_); (case h0 => omega); (case h1 => omega);  skip) | (with_reducible refine a_notd ?_) | (with_reducible refine a_not ?_) | (with_reducible refine a_ext0 ?_) | (with_reducible refine a_ext1 ?_) | (with_reducible refine a_ext2 ?_) | (with_reducible refine x_len ?_) | (with_reducible refine x_lens ?_) | (with_reducible refine x_eqb ?_) | (with_reducible refine x_neb ?_) | (with_reducible refine x_nilP ?_) | (with_reducible refine x_nilPn ?_) | (with_reducible refine x_nilF ?_) | (with_reducible refine x_nilFF ?_) | (with_reducible refine w_eqlL ?_) | (with_reducible refine w_neqL ?_) | (with_reducible refine s_eqlL ?_) | (with_reducible refine ifnt ?_) | (with_reducible refine ifnf ?_) | (with_reducible refine x_eqB ?_) | (with_reducible refine x_neB ?_) | (with_reducible refine x_lssL ?_) | (with_reducible refine x_gtrL ?_) | (with_reducible refine x_geqL ?_) | (with_reducible refine s_neqL ?_) | (with_reducible refine St.load h ?_) | (with_reducible refine St.loadS h ?_) | (with_reducible refine a_fld0 ?_) | (with_reducible refine St.store h fun W h => ?_) | (with_reducible refine St.storeS h fun W h => ?_) | (with_reducible refine St.alloc h fun b W h => ?_) | (with_reducible refine St.allocS h fun b W h => ?_) | (with_reducible refine a_nil ?_) | (with_reducible refine ss_load ?_) | (with_reducible refine ss_loadS ?_) | (with_reducible refine ss_eqb ?_)))
  refine mclone_spec (b := nb) h fun nb2 W h => ?_
  (repeat (first | (with_reducible refine ift ?_) | (with_reducible refine iff' ?_) | (with_reducible refine a_lss ?_) | (with_reducible refine a_leq ?_) | (with_reducible refine a_gtr ?_) | (with_reducible refine a_geq ?_) | (with_reducible refine w_eql ?_) | (with_reducible refine w_neq ?_) | (with_reducible refine s_eql ?_) | (with_reducible refine s_neq ?_) | ((with_reducible refine a_add64 ?h0 ?h1 ?_); (case h0 => omega); (case h1 => omega);  skip) | ((with_reducible refine a_sub64 ?h0 ?h1 ?_); (case h0 => omega); (case h1 => omega);  skip) | ((with_reducible refine a_mul64 ?h0 ?h1 ?_); (case h0 => omega); (case h1 => omega);  skip) | (with_reducible refine a_notd ?_) | (with_reducible refine a_not ?_) | (with_reducible refine a_ext0 ?_) | (with_reducible refine a_ext1 ?_) | (with_reducible refine a_ext2 ?_) | (with_reducible refine x_len ?_) | (with_reducible refine x_lens ?_) | (with_reducible refine x_eqb ?_) | (with_reducible refine x_neb ?_) | (with_reducible refine x_nilP ?_) | (with_reducible refine x_nilPn ?_) | (with_reducible refine x_nilF ?_) | (with_reducible refine x_nilFF ?_) | (with_reducible refine w_eqlL ?_) | (with_reducible refine w_neqL ?_) | (with_reducible refine s_eqlL ?_) | (with_reducible refine ifnt ?_) | (with_reducible refine ifnf ?_) | (with_reducible refine x_eqB ?_) | (with_reducible refine x_neB ?_) | (with_reducible refine x_lssL ?_) | (with_reducible refine x_gtrL ?_) | (with_reducible refine x_geqL ?_) | (with_reducible refine s_neqL ?_) | (with_reducible refine St.load h ?_) | (with_reducible refine St.loadS h ?_) | (with_reducible refine a_fld0 ?_) | (with_reducible refine St.store h fun W h => ?_) | (with_reducible refine St.storeS h fun W h => ?_) | (with_reducible refine St.alloc h fun b W h => ?_) | (with_reducible refine St.allocS h fun b W h => ?_) | (with_reducible refine a_nil ?_) | (with_reducible refine ss_load ?_) | (with_reducible refine ss_loadS ?_) | (with_reducible refine ss_eqb ?_)))
  have h1 : St w0 G (Ky (.slice none 0 0 : Value) (Ow 73 5 0 []) :: _) W := h.nilOw
  refine k zs1 W hz1 (St.to (shutD (v := .pointer (some ⟨b, 0, none⟩)) (shutE' (b := b) (nb := nb) (db := nb2) (pv := .slice none 0 0) (ev := ev) (ps := []) { r.1 with dur := r.1.now, pend := [] } h1 hVs rfl (by simp) rfl rfl rfl rfl rfl rfl rfl)))
theorem copy_spec [i : Has l v (Dk zs d) R] (h : St w0 G l W) (hc : d.calls ≤ 1000000) (k : ∀ b W', St w0 G (Ky (.pointer (some ⟨b, 0, none⟩) : Value) (Dk zs d) :: Ky v (Dk zs d) :: R) W' → RR (.pointer (some ⟨b, 0, none⟩)) W') : CallF Try.prog 11 #[v] W RR := by
  refine sh11_calls ?_
  unfold sh11
  obtain ⟨ev, oe, h2⟩ := openD (v := v) h
  obtain ⟨b, nb, db, pv, ps, hv, hV, hps, hcks, o1, o2, h3⟩ := openE' (v := v) h2
  subst hv
  replace h := h3
  clear h2 h3
  have hpl : ps.length ≤ 1000000000 := by
    have := hV.len
    have h1 : d.pend.length = ps.length := by rw [← hps]; simp
    omega
  have hpl2 := hV.plan
  refine a_nil ?_
  refine h.loadS ?_
  refine h.allocS fun bx W h => ?_
  refine h.storeS (cs' := [.int .i64 d.room, .map (some nb), .map (some db), pv, ev, .int .i64 (d.calls : Int), .bool d.down]) fun W h => ?_
  replace h := h.drew
  refine ⟨fun W' => Rec W' b 69 [.int .i64 d.room, .map (some nb), .map (some db), pv, ev, .int .i64 (d.calls : Int), .bool d.down], h.rc, ?_⟩
  refine a_nil (a_fld0 (s_ld (fun w hw => hw) rfl (a_nil (a_fld0 (s_ld (fun w hw => hw) rfl ?_)))))
  refine mclone_spec (b := nb) h fun nb2 W h => ?_
  refine ⟨h.rc, ?_⟩
  refine mclone_spec (b := db) h fun db2 W h => ?_
  (repeat (first | (with_reducible refine ift ?_) | (with_reducible refine iff' ?_) | (with_reducible refine a_lss ?_) | (with_reducible refine a_leq ?_) | (with_reducible refine a_gtr ?_) | (with_reducible refine a_geq ?_) | (with_reducible refine w_eql ?_) | (with_reducible refine w_neq ?_) | (with_reducible refine s_eql ?_) | (with_reducible refine s_neq ?_) | ((with_reducible refine a_add64 ?h0 ?h1 ?_); (case h0 => omega); (case h1 => omega);  skip) | ((with_reducible refine a_sub64 ?h0 ?h1 ?_); (case h0 => omega); (case h1 => omega);  skip) | ((with_reducible refine a_mul64 ?h0 ?h1 ?_); (case h0 => omega); (case h1 => omega);  skip) | (with_reducible refine a_notd ?_) | (with_reducible refine a_not ?_) | (with_reducible refine a_ext0 ?_) | (with_reducible refine a_ext1 ?_) | (with_reducible refine a_ext2 ?_) | (with_reducible refine x_len ?_) | (with_reducible refine x_lens ?_) | (with_reducible refine x_eqb ?_) | (with_reducible refine x_neb ?_) | (with_reducible refine x_nilP ?_) | (with_reducible refine x_nilPn ?_) | (with_reducible refine x_nilF ?_) | (with_reducible refine x_nilFF ?_) | (with_reducible refine w_eqlL ?_) | (with_reducible refine w_neqL ?_) | (with_reducible refine s_eqlL ?_) | (with_reducible refine ifnt ?_) | (with_reducible refine ifnf ?_) | (with_reducible refine x_eqB ?_) | (with_reducible refine x_neB ?_) | (with_reducible refine x_lssL ?_) | (with_reducible refine x_gtrL ?_) | (with_reducible refine x_geqL ?_) | (with_reducible refine s_neqL ?_) | (with_reducible refine St.load h ?_) | (with_reducible refine St.loadS h ?_) | (with_reducible refine a_fld0 ?_) | (with_reducible refine St.store h fun W h => ?_) | (with_reducible refine St.storeS h fun W h => ?_) | (with_reducible refine St.alloc h fun b W h => ?_) | (with_reducible refine St.allocS h fun b W h => ?_) | (with_reducible refine a_nil ?_) | (with_reducible refine ss_load ?_) | (with_reducible refine ss_loadS ?_) | (with_reducible refine ss_eqb ?_)))
  replace h := h.drew
  refine ⟨fun W' => Rec W' b 69 [.int .i64 d.room, .map (some nb), .map (some db), pv, ev, .int .i64 (d.calls : Int), .bool d.down], h.rc, ?_⟩
  refine a_nil (a_fld0 (s_ld (fun w hw => hw) rfl (a_nil (a_fld0 (s_ld (fun w hw => hw) rfl ?_)))))
  refine pclone_spec (h.osl (v := pv)) (chC_one ps) hpl fun pv2 W g1 g2 => ?_
  replace h := h.take g2 g1
  have op2 : Cel1 pv2 := .of_own g1
  refine ⟨h.rc, ?_⟩
  refine eclone_spec (h.osl (v := ev)) (evC_one d.plan) (by omega) fun ev2 W g1 g2 => ?_
  replace h := h.take g2 g1
  have oe2 : Cel1 ev2 := .of_own g1
  (repeat (first | (with_reducible refine ift ?_) | (with_reducible refine iff' ?_) | (with_reducible refine a_lss ?_) | (with_reducible refine a_leq ?_) | (with_reducible refine a_gtr ?_) | (with_reducible refine a_geq ?_) | (with_reducible refine w_eql ?_) | (with_reducible refine w_neq ?_) | (with_reducible refine s_eql ?_) | (with_reducible refine s_neq ?_) | ((with_reducible refine a_add64 ?h0 ?h1 ?_); (case h0 => omega); (case h1 => omega);  skip) | ((with_reducible refine a_sub64 ?h0 ?h1 ?_); (case h0 => omega); (case h1 => omega);  skip) | ((with_reducible refine a_mul64 ?h0 ?h1 ?_); (case h0 => omega); (case h1 => omega);  skip) | (with_reducible refine a_notd ?_) | (with_reducible refine a_not ?_) | (with_reducible refine a_ext0 ?_) | (with_reducible refine a_ext1 ?_) | (with_reducible refine a_ext2 ?_) | (with_reducible refine x_len ?_) | (with_reducible refine x_lens ?_) | (with_reducible refine x_eqb ?_) | (with_reducible refine x_neb ?_) | (with_reducible refine x_nilP ?_) | (with_reducible refine x_nilPn ?_) | (with_reducible refine x_nilF ?_) | (with_reducible refine x_nilFF ?_) | (with_reducible refine w_eqlL ?_) | (with_reducible refine w_neqL ?_) | (with_reducible refine s_eqlL ?_) | (with_reducible refine ifnt ?_) | (with_reducible refine ifnf ?_) | (with_reducible refine x_eqB ?_) | (with_reducible refine x_neB ?_) | (with_reducible refine x_lssL ?_) | (with_reducible refine x_gtrL ?_) | (with_reducible refine x_geqL ?_) | (with_reducible refine s_neqL ?_) | (with_reducible refine St.load h ?_) | (with_reducible refine St.loadS h ?_) | (with_reducible refine a_fld0 ?_) | (with_reducible refine St.store h fun W h => ?_) | (with_reducible refine St.storeS h fun W h => ?_) | (with_reducible refine St.alloc h fun b W h => ?_) | (with_reducible refine St.allocS h fun b W h => ?_) | (with_reducible refine a_nil ?_) | (with_reducible refine ss_load ?_) | (with_reducible refine ss_loadS ?_) | (with_reducible refine ss_eqb ?_)))
  replace h := shutD (v := .pointer (some ⟨b, 0, none⟩)) (shutE' (b := b) (nb := nb) (db := db) (pv := pv) (ev := ev) (ps := ps) d h hV hps hcks rfl rfl rfl rfl rfl rfl rfl)
  replace h := shutD (v := .pointer (some ⟨bx, 0, none⟩)) (shutE' (b := bx) (nb := nb2) (db := db2) (pv := pv2) (ev := ev2) (ps := ps) d h hV hps hcks rfl rfl rfl rfl rfl rfl rfl)
  exact k bx W h
def Dd.reboot (d : Dd) : Dd := { d with down := false }
def Dd.resize (d : Dd) (n : Int) : Dd := if 0 ≤ n ∧ n ≤ 1073741824 then { d with room := n } else d
def Dd.setPlan (d : Dd) (l : List Ev) : Dd := { d with plan := l }
theorem reboot_spec [i : Has l v (Dk zs d) R] (h : St w0 G l W) (k : ∀ W', St w0 G (Ky v (Dk zs (Dd.reboot d)) :: R) W' → RR (.tuple #[]) W') : CallF Try.prog 30 #[v] W RR := by
  refine sh30_calls ?_
  unfold sh30
  obtain ⟨ev, oe, h2⟩ := openD (v := v) h
  obtain ⟨b, nb, db, pv, ps, hv, hV, hps, hcks, o1, o2, h3⟩ := openE' (v := v) h2
  subst hv
  replace h := h3
  clear h2 h3
  (repeat (first | (with_reducible refine ift ?_) | (with_reducible refine iff' ?_) | (with_reducible refine a_lss ?_) | (with_reducible refine a_leq ?_) | (with_reducible refine a_gtr ?_) | (with_reducible refine a_geq ?_) | (with_reducible refine w_eql ?_) | (with_reducible refine w_neq ?_) | (with_reducible refine s_eql ?_) | (with_reducible refine s_neq ?_) | ((with_reducible refine a_add64 ?h0 ?h1 ?_); (case h0 => omega); (case h1 => omega);  skip) | ((with_reducible refine a_sub64 ?h0 ?h1 ?_); (case h0 => omega); (case h1 => omega);  skip) | ((with_reducible refine a_mul64 ?h0 ?h1 ?_); (case h0 => omega); (case h1 => omega);  skip) | (with_reducible refine a_notd ?_) | (with_reducible refine a_not ?_) | (with_reducible refine a_ext0 ?_) | (with_reducible refine a_ext1 ?_) | (with_reducible refine a_ext2 ?_) | (with_reducible refine x_len ?_) | (with_reducible refine x_lens ?_) | (with_reducible refine x_eqb ?_) | (with_reducible refine x_neb ?_) | (with_reducible refine x_nilP ?_) | (with_reducible refine x_nilPn ?_) | (with_reducible refine x_nilF ?_) | (with_reducible refine x_nilFF ?_) | (with_reducible refine w_eqlL ?_) | (with_reducible refine w_neqL ?_) | (with_reducible refine s_eqlL ?_) | (with_reducible refine ifnt ?_) | (with_reducible refine ifnf ?_) | (with_reducible refine x_eqB ?_) | (with_reducible refine x_neB ?_) | (with_reducible refine x_lssL ?_) | (with_reducible refine x_gtrL ?_) | (with_reducible refine x_geqL ?_) | (with_reducible refine s_neqL ?_) | (with_reducible refine St.load h ?_) | (with_reducible refine St.loadS h ?_) | (with_reducible refine a_fld0 ?_) | (with_reducible refine St.store h fun W h => ?_) | (with_reducible refine St.storeS h fun W h => ?_) | (with_reducible refine St.alloc h fun b W h => ?_) | (with_reducible refine St.allocS h fun b W h => ?_) | (with_reducible refine a_nil ?_) | (with_reducible refine ss_load ?_) | (with_reducible refine ss_loadS ?_) | (with_reducible refine ss_eqb ?_)))
  exact k _ (shutD (v := .pointer (some ⟨b, 0, none⟩)) (shutE' (b := b) (nb := nb) (db := db) (pv := pv) (ev := ev) (ps := ps) (Dd.reboot d) h ⟨hV.gm, hV.ok, hV.room0, hV.room1, hV.len, hV.plan⟩ hps hcks rfl rfl rfl rfl rfl rfl rfl))
theorem resize_spec {n : Int} [i : Has l v (Dk zs d) R] (h : St w0 G l W) (k : ∀ W', St w0 G (Ky v (Dk zs (Dd.resize d n)) :: R) W' → RR (.bool (decide (0 ≤ n ∧ n ≤ 1073741824))) W') : CallF Try.prog 61 #[v, .int .i64 n] W RR := by
  refine sh61_calls ?_
  unfold sh61
  unfold Dd.resize at k
  refine fits_spec ?_
  refine a_notd (ifd (fun hc => ?_) fun hc => ?_)
  · rw [if_neg hc, decide_eq_false hc] at k
    exact k W (h.find (k := v) (X := Dk zs d))
  have hc' : 0 ≤ n ∧ n ≤ 1073741824 := by omega
  rw [if_pos hc', decide_eq_true hc'] at k
  obtain ⟨ev, oe, h2⟩ := openD (v := v) h
  obtain ⟨b, nb, db, pv, ps, hv, hV, hps, hcks, o1, o2, h3⟩ := openE' (v := v) h2
  subst hv
  replace h := h3
  clear h2 h3
  (repeat (first | (with_reducible refine ift ?_) | (with_reducible refine iff' ?_) | (with_reducible refine a_lss ?_) | (with_reducible refine a_leq ?_) | (with_reducible refine a_gtr ?_) | (with_reducible refine a_geq ?_) | (with_reducible refine w_eql ?_) | (with_reducible refine w_neq ?_) | (with_reducible refine s_eql ?_) | (with_reducible refine s_neq ?_) | ((with_reducible refine a_add64 ?h0 ?h1 ?_); (case h0 => omega); (case h1 => omega);  skip) | ((with_reducible refine a_sub64 ?h0 ?h1 ?_); (case h0 => omega); (case h1 => omega);  skip) | ((with_reducible refine a_mul64 ?h0 ?h1 ?_); (case h0 => omega); (case h1 => omega);  skip) | (with_reducible refine a_notd ?_) | (with_reducible refine a_not ?_) | (with_reducible refine a_ext0 ?_) | (with_reducible refine a_ext1 ?_) | (with_reducible refine a_ext2 ?_) | (with_reducible refine x_len ?_) | (with_reducible refine x_lens ?_) | (with_reducible refine x_eqb ?_) | (with_reducible refine x_neb ?_) | (with_reducible refine x_nilP ?_) | (with_reducible refine x_nilPn ?_) | (with_reducible refine x_nilF ?_) | (with_reducible refine x_nilFF ?_) | (with_reducible refine w_eqlL ?_) | (with_reducible refine w_neqL ?_) | (with_reducible refine s_eqlL ?_) | (with_reducible refine ifnt ?_) | (with_reducible refine ifnf ?_) | (with_reducible refine x_eqB ?_) | (with_reducible refine x_neB ?_) | (with_reducible refine x_lssL ?_) | (with_reducible refine x_gtrL ?_) | (with_reducible refine x_geqL ?_) | (with_reducible refine s_neqL ?_) | (with_reducible refine St.load h ?_) | (with_reducible refine St.loadS h ?_) | (with_reducible refine a_fld0 ?_) | (with_reducible refine St.store h fun W h => ?_) | (with_reducible refine St.storeS h fun W h => ?_) | (with_reducible refine St.alloc h fun b W h => ?_) | (with_reducible refine St.allocS h fun b W h => ?_) | (with_reducible refine a_nil ?_) | (with_reducible refine ss_load ?_) | (with_reducible refine ss_loadS ?_) | (with_reducible refine ss_eqb ?_)))
  exact k _ (shutD (v := .pointer (some ⟨b, 0, none⟩)) (shutE' (b := b) (nb := nb) (db := db) (pv := pv) (ev := ev) (ps := ps) { d with room := n } h ⟨hV.gm, hV.ok, hc'.1, hc'.2, hV.len, hV.plan⟩ hps hcks rfl rfl rfl rfl rfl rfl rfl))
theorem plan_spec {a : Value} {es : List Ev} [i : Has l v (Dk zs d) R] (h : St w0 G l W) (ha : Sl W 4 a es.length (rcells evC es)) (hn : es.length ≤ 1000000) (k : ∀ W', St w0 G (Ky v (Dk zs (Dd.setPlan d es)) :: R) W' → RR (.tuple #[]) W') : CallF Try.prog 58 #[v, a] W RR := by
  refine sh58_calls ?_
  unfold sh58
  refine eclone_spec ha (evC_one es) (by omega) fun ev2 W g1 g2 => ?_
  replace h := h.take g2 g1
  have oe2 : Cel1 ev2 := .of_own g1
  obtain ⟨ev, oe, h2⟩ := openD (v := v) h
  obtain ⟨b, nb, db, pv, ps, hv, hV, hps, hcks, o1, o2, h3⟩ := openE' (v := v) h2
  subst hv
  replace h := h3
  clear h2 h3
  (repeat (first | (with_reducible refine ift ?_) | (with_reducible refine iff' ?_) | (with_reducible refine a_lss ?_) | (with_reducible refine a_leq ?_) | (with_reducible refine a_gtr ?_) | (with_reducible refine a_geq ?_) | (with_reducible refine w_eql ?_) | (with_reducible refine w_neq ?_) | (with_reducible refine s_eql ?_) | (with_reducible refine s_neq ?_) | ((with_reducible refine a_add64 ?h0 ?h1 ?_); (case h0 => omega); (case h1 => omega);  skip) | ((with_reducible refine a_sub64 ?h0 ?h1 ?_); (case h0 => omega); (case h1 => omega);  skip) | ((with_reducible refine a_mul64 ?h0 ?h1 ?_); (case h0 => omega); (case h1 => omega);  skip) | (with_reducible refine a_notd ?_) | (with_reducible refine a_not ?_) | (with_reducible refine a_ext0 ?_) | (with_reducible refine a_ext1 ?_) | (with_reducible refine a_ext2 ?_) | (with_reducible refine x_len ?_) | (with_reducible refine x_lens ?_) | (with_reducible refine x_eqb ?_) | (with_reducible refine x_neb ?_) | (with_reducible refine x_nilP ?_) | (with_reducible refine x_nilPn ?_) | (with_reducible refine x_nilF ?_) | (with_reducible refine x_nilFF ?_) | (with_reducible refine w_eqlL ?_) | (with_reducible refine w_neqL ?_) | (with_reducible refine s_eqlL ?_) | (with_reducible refine ifnt ?_) | (with_reducible refine ifnf ?_) | (with_reducible refine x_eqB ?_) | (with_reducible refine x_neB ?_) | (with_reducible refine x_lssL ?_) | (with_reducible refine x_gtrL ?_) | (with_reducible refine x_geqL ?_) | (with_reducible refine s_neqL ?_) | (with_reducible refine St.load h ?_) | (with_reducible refine St.loadS h ?_) | (with_reducible refine a_fld0 ?_) | (with_reducible refine St.store h fun W h => ?_) | (with_reducible refine St.storeS h fun W h => ?_) | (with_reducible refine St.alloc h fun b W h => ?_) | (with_reducible refine St.allocS h fun b W h => ?_) | (with_reducible refine a_nil ?_) | (with_reducible refine ss_load ?_) | (with_reducible refine ss_loadS ?_) | (with_reducible refine ss_eqb ?_)))
  exact k _ (St.to (shutD (v := .pointer (some ⟨b, 0, none⟩)) (shutE' (b := b) (nb := nb) (db := db) (pv := pv) (ev := ev2) (ps := ps) (Dd.setPlan d es) h ⟨hV.gm, hV.ok, hV.room0, hV.room1, hV.len, hn⟩ hps hcks rfl rfl rfl rfl rfl rfl rfl)))
end
end Go.Proofs.Ytdoopdbfajgnjaa
