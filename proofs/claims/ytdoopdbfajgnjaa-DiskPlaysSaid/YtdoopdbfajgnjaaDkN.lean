/-
  FILES THAT FALL, the document's: a crash, a call that begins, all calls.
-/
import Derived.Test.YtdoopdbfajgnjaaDkM
namespace Go.Ez
open Go Go.Proofs Go.RowKit
set_option linter.unusedSimpArgs false
set_option linter.unusedVariables false
/-- the document's disk that is read -/
def XkZt (t : TypeId) (d : Dd) (W : World) (v : Value) : Prop := ∃ (b : Nat) (nv sv pv ev : Value) (fs : List Fl), v = .pointer (some ⟨b, 0, none⟩) ∧ d.V ∧ Rec W b t [.int .i64 d.room, nv, sv, pv, ev, .int .i64 (d.calls : Int), .bool d.down] ∧ Sl W 2 nv fs.length (rcells fileC fs) ∧ fs.map Prod.fst = d.now ∧ ∀ p ∈ fs, By W (svV p.2) p.1.2
theorem XkZt.below {t : TypeId} {d : Dd} {W W' : World} {v : Value} (h : XkZt t d W v) (hb : Below W.heap.size W W') : XkZt t d W' v := by
  obtain ⟨b, nv, sv, pv, ev, fs, hv, hV, hr, hs, hf, hk⟩ := h
  exact ⟨b, nv, sv, pv, ev, fs, hv, hV, hr.below hb, hs.below hb, hf, fun p hp => Sl.below (hk p hp) hb⟩
def zsF (fs : List Fl) : Zs := fs.map fun p => (svV p.2, p.1.2)
theorem zsF_fk (fs : List Fl) : FK (zsF fs) fs := fun p hp => .inl (List.mem_map.2 ⟨p, hp, rfl⟩)
theorem zsF_by {fs : List Fl} {W : World} (h : ∀ p ∈ fs, By W (svV p.2) p.1.2) : ∀ z ∈ zsF fs, By W z.1 z.2 := by
  intro z hz
  obtain ⟨p, hp, rfl⟩ := List.mem_map.1 hz
  exact h p hp
end Go.Ez
namespace Go.Proofs.Ytdoopdbfajgnjaa
open Go Go.Ez Go.RowKit
set_option linter.unusedSimpArgs false
set_option linter.unusedVariables false
abbrev XkZ := XkZt 88
section
variable {w0 W : World} {l R R1 R2 R3 R4 R5 : List As} {zs zs' : Zs} {v : Value} {RR : Value → World → Prop} {s : Txt} {d : Dd}
theorem freezeX [i : Has l v (Xk zs d) R1] [j : Has R1 PoolK.a (Pl zs) R] (h : St w0 G0 l W) : XkZ d W v := by
  obtain ⟨b, nv, sv, pv, ev, fs, gs, ps, hv, hV, hf, hgg, hp, hk, _, h2⟩ := openX (v := v) h
  refine ⟨b, nv, sv, pv, ev, fs, hv, hV, h2.rc, h2.osl (v := nv), hf.1, fun p hp => ?_⟩
  exact h2.plGet .a (hf.2 p hp)
theorem xlen {fs : List Fl} (hV : d.V) (hf : fs.map Prod.fst = d.now) : fs.length ≤ d.calls := by
  have h1 := congrArg List.length hf
  have h2 := hV.lenN
  rw [List.length_map] at h1
  omega
theorem callsx_spec (hz : XkZ d W v) (k : RR (.int .i64 (d.calls : Int)) W) : CallF Try.prog 64 #[v] W RR := by
  refine sh64_calls ?_
  unfold sh64
  obtain ⟨b, nv, sv, pv, ev, fs, rfl, hV, hr, hs, hf, hk⟩ := hz
  refine a_nil (a_fld0 (w_ldR hr rfl ?_))
  exact k
theorem upx_spec (hz : XkZ d W v) (k : RR (.bool (!d.down)) W) : CallF Try.prog 63 #[v] W RR := by
  refine sh63_calls ?_
  unfold sh63
  obtain ⟨b, nv, sv, pv, ev, fs, rfl, hV, hr, hs, hf, hk⟩ := hz
  refine a_nil (a_fld0 (w_ldR hr rfl (a_not ?_)))
  exact k
theorem usedX_spec (hz : XkZ d W v) (hc : d.calls ≤ 800000) (k : RR (nV .i64 (tot d.now)) W) : CallF Try.prog 65 #[v] W RR := by
  refine sh65_calls ?_
  unfold sh65
  obtain ⟨b, nv, sv, pv, ev, fs, rfl, hV, hr, hs, hf, hk⟩ := hz
  have hl := xlen hV hf
  refine a_nil (a_fld0 (w_ldR hr rfl ?_))
  refine usedx_spec hs rfl (by omega) (by rw [hf]; exact hV.now.tot) hk ?_
  rw [hf]; exact k
theorem peekx_spec {s : Txt} (hz : XkZ d W v) (hc : d.calls ≤ 800000) (k : ∀ v' W', Cel1 v' → St W G0 [Ky v' (BO (gt s d.now))] W' → RR (.tuple #[v', .bool (getK s d.now).isSome]) W') : CallF Try.prog 67 #[v, strV s] W RR := by
  refine sh67_calls ?_
  unfold sh67
  obtain ⟨b, nv, sv, pv, ev, fs, rfl, hV, hr, hs, hf, hk⟩ := hz
  have hl := xlen hV hf
  have hgl := gt_le (k := s) hV.now.srt
  have htot := hV.now.tot
  have h := (St.start W).drew
  refine ⟨fun W' => Below W.heap.size W W', h.low, ?_⟩
  refine a_nil (a_fld0 (s_ld (fun w hw => hr.below hw) rfl (a_nil (a_fld0 (s_ld (fun w hw => hr.below hw) rfl ?_)))))
  refine data_spec (s := s) (hs.below h.low) rfl (by omega) (zsF_fk fs) fun v1 hv1 => ?_
  rw [hf] at hv1
  refine ⟨h.low, ?_⟩
  refine copyBytes_spec (Sl.below (plBy (zsF_by hk) hv1) h.low) (by omega) fun v2 W2 g1 g2 => ?_
  replace h := h.take g2 g1
  refine ⟨h.low, ?_⟩
  refine find_spec (s := s) (hs.below h.low) rfl (by omega) fun n h1 h2 => ?_
  rw [hf] at h1 h2
  refine a_geq ?_
  have e : decide (0 ≤ n) = (getK s d.now).isSome := by
    by_cases hn : 0 ≤ n
    · obtain ⟨p, _, hg⟩ := h2 hn
      rw [hg, decide_eq_true hn]; rfl
    · rw [h1 (by omega), decide_eq_false hn]; rfl
  rw [e]
  exact k v2 W2 (.of_own g1) h
theorem namesx_spec (hz : XkZ d W v) (hc : d.calls ≤ 800000) (k : ∀ v' W', Cel1 v' → St W G0 [Ky v' (Ow 9 1 (d.now.map Prod.fst).length ((d.now.map Prod.fst).map strV))] W' → RR v' W') : CallF Try.prog 66 #[v] W RR := by
  refine sh66_calls ?_
  unfold sh66
  obtain ⟨b, nv, sv, pv, ev, fs, rfl, hV, hr, hs, hf, hk⟩ := hz
  have hl := xlen hV hf
  have hnil : St W G0 (Ky (.slice none 0 0 : Value) (Ow 9 1 0 (((d.now.map Prod.fst).take 0).map strV)) :: []) W := (St.start W).nilOw
  have hlm : (d.now.map Prod.fst).length = fs.length := by rw [← hf]; simp
  refine lpx (α := Nat × Value) (fun p => [p.2, nV .i64 p.1]) (fun p W' => p.1 ≤ fs.length ∧ Cel1 p.2 ∧ St W G0 [Ky p.2 (Ow 9 1 p.1 (((d.now.map Prod.fst).take p.1).map strV))] W') (fun p => fs.length - p.1) (0, .slice none 0 0) (fun _ => rfl) rfl ⟨Nat.zero_le _, ⟨rfl⟩, hnil⟩ ?_
  rintro next ⟨i, u⟩ W' hnext ⟨hi, ou, h⟩
  simp only at hi ou h
  refine app2 ?_
  refine a_nil (a_fld0 (w_ldR (hr.below h.low) rfl ?_))
  refine x_lenS hs ?_
  refine a_lss (ifd (fun hlt => ?_) fun hlt => ?_)
  · have hil : i < fs.length := by simp only at hlt; omega
    obtain ⟨p, hp⟩ : ∃ p, fs[i]? = some p := ⟨_, List.getElem?_eq_getElem hil⟩
    have hpm : (d.now.map Prod.fst)[i]? = some p.1.1 := by rw [← hf, List.getElem?_map, List.getElem?_map, hp]; rfl
    refine a_nil (a_fld0 (w_ldR (hr.below h.low) rfl ?_))
    refine x_fld (hs.below h.low) hil (off := 0) (by decide) ((fileC_get hp (by decide)).trans rfl) ?_
    refine h.push (v := u) (t := 42) (by unfold maxLen; omega) (by omega) fun u2 W2 o2 h _ => ?_
    refine a_add64 (by omega) (by omega) ?_
    rw [show ((i : Int) + 1) = ((i + 1 : Nat) : Int) by push_cast; rfl]
    have e : ((d.now.map Prod.fst).take i).map strV ++ [strV p.1.1] = ((d.now.map Prod.fst).take (i + 1)).map strV := by rw [List.take_add_one, hpm, List.map_append]; rfl
    rw [e] at h
    exact ⟨rfl, hnext (i + 1, u2) W2 (by simp only; omega) ⟨by simp only; omega, o2, h⟩⟩
  · have hil : i = fs.length := by simp only at hlt; omega
    subst hil
    rw [← hlm, List.take_length] at h
    exact k u W' ou h
theorem rebootx_spec [i : Has l v (Xk zs d) R] (h : St w0 G0 l W) (k : ∀ W', St w0 G0 (Ky v (Xk zs (Dd.reboot d)) :: R) W' → RR (.tuple #[]) W') : CallF Try.prog 57 #[v] W RR := by
  refine sh57_calls ?_
  unfold sh57
  obtain ⟨b, nv, sv, pv, ev, fs, gs, ps, rfl, hV, hf, hgg, hps, hcks, ⟨o1, o2, o3, o4⟩, h3⟩ := openX (v := v) h
  clear h
  have h := h3
  clear h3
  (repeat (first | (with_reducible refine ift ?_) | (with_reducible refine iff' ?_) | (with_reducible refine a_lss ?_) | (with_reducible refine a_leq ?_) | (with_reducible refine a_gtr ?_) | (with_reducible refine a_geq ?_) | (with_reducible refine w_eql ?_) | (with_reducible refine w_neq ?_) | (with_reducible refine s_eql ?_) | (with_reducible refine s_neq ?_) | ((with_reducible refine a_add64 ?h0 ?h1 ?_); (case h0 => omega); (case h1 => omega);  skip) | ((with_reducible refine a_sub64 ?h0 ?h1 ?_); (case h0 => omega); (case h1 => omega);  skip) | ((with_reducible refine a_mul64 ?h0 ?h1 ?_); (case h0 => omega); (case h1 => omega);  skip) | (with_reducible refine a_notd ?_) | (with_reducible refine a_not ?_) | (with_reducible refine a_ext0 ?_) | (with_reducible refine a_ext1 ?_) | (with_reducible refine a_ext2 ?_) | (with_reducible refine x_len ?_) | (with_reducible refine x_lens ?_) | (with_reducible refine x_eqb ?_) | (with_reducible refine x_neb ?_) | (with_reducible refine x_nilP ?_) | (with_reducible refine x_nilPn ?_) | (with_reducible refine x_nilF ?_) | (with_reducible refine x_nilFF ?_) | (with_reducible refine w_eqlL ?_) | (with_reducible refine w_neqL ?_) | (with_reducible refine s_eqlL ?_) | (with_reducible refine ifnt ?_) | (with_reducible refine ifnf ?_) | (with_reducible refine x_eqB ?_) | (with_reducible refine x_neB ?_) | (with_reducible refine x_lssL ?_) | (with_reducible refine x_gtrL ?_) | (with_reducible refine x_geqL ?_) | (with_reducible refine s_neqL ?_) | (with_reducible refine St.load h ?_) | (with_reducible refine St.loadS h ?_) | (with_reducible refine a_fld0 ?_) | (with_reducible refine St.store h fun W h => ?_) | (with_reducible refine St.storeS h fun W h => ?_) | (with_reducible refine St.alloc h fun b W h => ?_) | (with_reducible refine St.allocS h fun b W h => ?_) | (with_reducible refine a_nil ?_) | (with_reducible refine ss_load ?_) | (with_reducible refine ss_loadS ?_) | (with_reducible refine ss_eqb ?_)))
  exact k _ (shutX (b := b) (nv := nv) (sv := sv) (pv := pv) (ev := ev) (fs := fs) (gs := gs) (ps := ps) (zs := zs) (Dd.reboot d) h ⟨hV.gm, hV.ok, hV.room0, hV.room1, hV.len, hV.plan⟩ hf hgg hps hcks rfl rfl rfl rfl rfl rfl rfl rfl rfl)
theorem resizex_spec {n : Int} [i : Has l v (Xk zs d) R] (h : St w0 G0 l W) (k : ∀ W', St w0 G0 (Ky v (Xk zs (Dd.resize d n)) :: R) W' → RR (.bool (decide (0 ≤ n ∧ n ≤ 1073741824))) W') : CallF Try.prog 62 #[v, .int .i64 n] W RR := by
  refine sh62_calls ?_
  unfold sh62
  unfold Dd.resize at k
  have no : ¬ (0 ≤ n ∧ n ≤ 1073741824) → RR (.bool false) W := fun hc => by
    rw [if_neg hc, decide_eq_false hc] at k
    exact k W (h.find (k := v) (X := Xk zs d))
  refine a_lss (ifd (fun hx => no (by omega)) fun hx0 => ?_)
  refine a_gtr (ifd (fun hx => no (by omega)) fun hx1 => ?_)
  have hc' : 0 ≤ n ∧ n ≤ 1073741824 := by omega
  rw [if_pos hc', decide_eq_true hc'] at k
  obtain ⟨b, nv, sv, pv, ev, fs, gs, ps, rfl, hV, hf, hgg, hps, hcks, ⟨o1, o2, o3, o4⟩, h3⟩ := openX (v := v) h
  clear h
  have h := h3
  clear h3
  (repeat (first | (with_reducible refine ift ?_) | (with_reducible refine iff' ?_) | (with_reducible refine a_lss ?_) | (with_reducible refine a_leq ?_) | (with_reducible refine a_gtr ?_) | (with_reducible refine a_geq ?_) | (with_reducible refine w_eql ?_) | (with_reducible refine w_neq ?_) | (with_reducible refine s_eql ?_) | (with_reducible refine s_neq ?_) | ((with_reducible refine a_add64 ?h0 ?h1 ?_); (case h0 => omega); (case h1 => omega);  skip) | ((with_reducible refine a_sub64 ?h0 ?h1 ?_); (case h0 => omega); (case h1 => omega);  skip) | ((with_reducible refine a_mul64 ?h0 ?h1 ?_); (case h0 => omega); (case h1 => omega);  skip) | (with_reducible refine a_notd ?_) | (with_reducible refine a_not ?_) | (with_reducible refine a_ext0 ?_) | (with_reducible refine a_ext1 ?_) | (with_reducible refine a_ext2 ?_) | (with_reducible refine x_len ?_) | (with_reducible refine x_lens ?_) | (with_reducible refine x_eqb ?_) | (with_reducible refine x_neb ?_) | (with_reducible refine x_nilP ?_) | (with_reducible refine x_nilPn ?_) | (with_reducible refine x_nilF ?_) | (with_reducible refine x_nilFF ?_) | (with_reducible refine w_eqlL ?_) | (with_reducible refine w_neqL ?_) | (with_reducible refine s_eqlL ?_) | (with_reducible refine ifnt ?_) | (with_reducible refine ifnf ?_) | (with_reducible refine x_eqB ?_) | (with_reducible refine x_neB ?_) | (with_reducible refine x_lssL ?_) | (with_reducible refine x_gtrL ?_) | (with_reducible refine x_geqL ?_) | (with_reducible refine s_neqL ?_) | (with_reducible refine St.load h ?_) | (with_reducible refine St.loadS h ?_) | (with_reducible refine a_fld0 ?_) | (with_reducible refine St.store h fun W h => ?_) | (with_reducible refine St.storeS h fun W h => ?_) | (with_reducible refine St.alloc h fun b W h => ?_) | (with_reducible refine St.allocS h fun b W h => ?_) | (with_reducible refine a_nil ?_) | (with_reducible refine ss_load ?_) | (with_reducible refine ss_loadS ?_) | (with_reducible refine ss_eqb ?_)))
  exact k _ (shutX (b := b) (nv := nv) (sv := sv) (pv := pv) (ev := ev) (fs := fs) (gs := gs) (ps := ps) (zs := zs) { d with room := n } h ⟨hV.gm, hV.ok, hc'.1, hc'.2, hV.len, hV.plan⟩ hf hgg hps hcks rfl rfl rfl rfl rfl rfl rfl rfl rfl)
/-- Crash -/
theorem crashx_spec {keep torn : Int} [i : Has l v (Xk zs d) R1] [j : Has R1 PoolK.a (Pl zs) R] (h : St w0 G0 l W) (hc : d.calls ≤ 400000)
    (k : ∀ zs' W', (∀ z ∈ zs, z ∈ zs') → St w0 G0 (Ky v (Xk zs' (d.crash keep torn)) :: Ky PoolK.a (Pl zs') :: R) W' → RR (.tuple #[]) W') : CallF Try.prog 56 #[v, .int .i64 keep, .int .i64 torn] W RR := by
  refine sh56_calls ?_
  unfold sh56
  replace h := has2 (k := v) (k' := PoolK.a) h
  obtain ⟨b, nv, sv, pv, ev, fs, gs, ps, rfl, hV, hf, hgg, hps, hck, ⟨o1, o2, o3, o4⟩, h3⟩ := openX (v := v) h
  clear h
  have h := h3
  clear h3
  (repeat (first | (with_reducible refine ift ?_) | (with_reducible refine iff' ?_) | (with_reducible refine a_lss ?_) | (with_reducible refine a_leq ?_) | (with_reducible refine a_gtr ?_) | (with_reducible refine a_geq ?_) | (with_reducible refine w_eql ?_) | (with_reducible refine w_neq ?_) | (with_reducible refine s_eql ?_) | (with_reducible refine s_neq ?_) | ((with_reducible refine a_add64 ?h0 ?h1 ?_); (case h0 => omega); (case h1 => omega);  skip) | ((with_reducible refine a_sub64 ?h0 ?h1 ?_); (case h0 => omega); (case h1 => omega);  skip) | ((with_reducible refine a_mul64 ?h0 ?h1 ?_); (case h0 => omega); (case h1 => omega);  skip) | (with_reducible refine a_notd ?_) | (with_reducible refine a_not ?_) | (with_reducible refine a_ext0 ?_) | (with_reducible refine a_ext1 ?_) | (with_reducible refine a_ext2 ?_) | (with_reducible refine x_len ?_) | (with_reducible refine x_lens ?_) | (with_reducible refine x_eqb ?_) | (with_reducible refine x_neb ?_) | (with_reducible refine x_nilP ?_) | (with_reducible refine x_nilPn ?_) | (with_reducible refine x_nilF ?_) | (with_reducible refine x_nilFF ?_) | (with_reducible refine w_eqlL ?_) | (with_reducible refine w_neqL ?_) | (with_reducible refine s_eqlL ?_) | (with_reducible refine ifnt ?_) | (with_reducible refine ifnf ?_) | (with_reducible refine x_eqB ?_) | (with_reducible refine x_neB ?_) | (with_reducible refine x_lssL ?_) | (with_reducible refine x_gtrL ?_) | (with_reducible refine x_geqL ?_) | (with_reducible refine s_neqL ?_) | (with_reducible refine St.load h ?_) | (with_reducible refine St.loadS h ?_) | (with_reducible refine a_fld0 ?_) | (with_reducible refine St.store h fun W h => ?_) | (with_reducible refine St.storeS h fun W h => ?_) | (with_reducible refine St.alloc h fun b W h => ?_) | (with_reducible refine St.allocS h fun b W h => ?_) | (with_reducible refine a_nil ?_) | (with_reducible refine ss_load ?_) | (with_reducible refine ss_loadS ?_) | (with_reducible refine ss_eqb ?_)))
  refine ifb (fun hd => ?_) fun hd => ?_
  · have e : d.crash keep torn = d := by unfold Dd.crash; rw [if_pos hd]
    rw [e] at k
    exact k zs W (fun _ h => h) (shutX (b := b) (nv := nv) (sv := sv) (pv := pv) (ev := ev) (fs := fs) (gs := gs) (ps := ps) (zs := zs) d h hV hf hgg hps hck rfl rfl rfl rfl rfl rfl rfl rfl rfl)
  have hcr : d.crash keep torn = { d with dur := tornM d.pend[keepN keep d.pend.length]? torn (apps (d.pend.take (keepN keep d.pend.length)) d.dur), pend := [], down := true } := by unfold Dd.crash; rw [if_neg (by rw [hd]; simp)]
  have hlp : d.pend.length = ps.length := by rw [← hps]; simp
  have hVc := hV.crash keep torn
  rw [hcr] at k hVc
  rw [hlp] at k hVc
  have hK := keepN_le keep ps.length
  have hll := hV.len
  have hgl : gs.length = d.dur.length := by rw [← hgg.1]; simp
  (repeat (first | (with_reducible refine ift ?_) | (with_reducible refine iff' ?_) | (with_reducible refine a_lss ?_) | (with_reducible refine a_leq ?_) | (with_reducible refine a_gtr ?_) | (with_reducible refine a_geq ?_) | (with_reducible refine w_eql ?_) | (with_reducible refine w_neq ?_) | (with_reducible refine s_eql ?_) | (with_reducible refine s_neq ?_) | ((with_reducible refine a_add64 ?h0 ?h1 ?_); (case h0 => omega); (case h1 => omega);  skip) | ((with_reducible refine a_sub64 ?h0 ?h1 ?_); (case h0 => omega); (case h1 => omega);  skip) | ((with_reducible refine a_mul64 ?h0 ?h1 ?_); (case h0 => omega); (case h1 => omega);  skip) | (with_reducible refine a_notd ?_) | (with_reducible refine a_not ?_) | (with_reducible refine a_ext0 ?_) | (with_reducible refine a_ext1 ?_) | (with_reducible refine a_ext2 ?_) | (with_reducible refine x_len ?_) | (with_reducible refine x_lens ?_) | (with_reducible refine x_eqb ?_) | (with_reducible refine x_neb ?_) | (with_reducible refine x_nilP ?_) | (with_reducible refine x_nilPn ?_) | (with_reducible refine x_nilF ?_) | (with_reducible refine x_nilFF ?_) | (with_reducible refine w_eqlL ?_) | (with_reducible refine w_neqL ?_) | (with_reducible refine s_eqlL ?_) | (with_reducible refine ifnt ?_) | (with_reducible refine ifnf ?_) | (with_reducible refine x_eqB ?_) | (with_reducible refine x_neB ?_) | (with_reducible refine x_lssL ?_) | (with_reducible refine x_gtrL ?_) | (with_reducible refine x_geqL ?_) | (with_reducible refine s_neqL ?_) | (with_reducible refine St.load h ?_) | (with_reducible refine St.loadS h ?_) | (with_reducible refine a_fld0 ?_) | (with_reducible refine St.store h fun W h => ?_) | (with_reducible refine St.storeS h fun W h => ?_) | (with_reducible refine St.alloc h fun b W h => ?_) | (with_reducible refine St.allocS h fun b W h => ?_) | (with_reducible refine a_nil ?_) | (with_reducible refine ss_load ?_) | (with_reducible refine ss_loadS ?_) | (with_reducible refine ss_eqb ?_)))
  refine w_max ?_
  (repeat (first | (with_reducible refine ift ?_) | (with_reducible refine iff' ?_) | (with_reducible refine a_lss ?_) | (with_reducible refine a_leq ?_) | (with_reducible refine a_gtr ?_) | (with_reducible refine a_geq ?_) | (with_reducible refine w_eql ?_) | (with_reducible refine w_neq ?_) | (with_reducible refine s_eql ?_) | (with_reducible refine s_neq ?_) | ((with_reducible refine a_add64 ?h0 ?h1 ?_); (case h0 => omega); (case h1 => omega);  skip) | ((with_reducible refine a_sub64 ?h0 ?h1 ?_); (case h0 => omega); (case h1 => omega);  skip) | ((with_reducible refine a_mul64 ?h0 ?h1 ?_); (case h0 => omega); (case h1 => omega);  skip) | (with_reducible refine a_notd ?_) | (with_reducible refine a_not ?_) | (with_reducible refine a_ext0 ?_) | (with_reducible refine a_ext1 ?_) | (with_reducible refine a_ext2 ?_) | (with_reducible refine x_len ?_) | (with_reducible refine x_lens ?_) | (with_reducible refine x_eqb ?_) | (with_reducible refine x_neb ?_) | (with_reducible refine x_nilP ?_) | (with_reducible refine x_nilPn ?_) | (with_reducible refine x_nilF ?_) | (with_reducible refine x_nilFF ?_) | (with_reducible refine w_eqlL ?_) | (with_reducible refine w_neqL ?_) | (with_reducible refine s_eqlL ?_) | (with_reducible refine ifnt ?_) | (with_reducible refine ifnf ?_) | (with_reducible refine x_eqB ?_) | (with_reducible refine x_neB ?_) | (with_reducible refine x_lssL ?_) | (with_reducible refine x_gtrL ?_) | (with_reducible refine x_geqL ?_) | (with_reducible refine s_neqL ?_) | (with_reducible refine St.load h ?_) | (with_reducible refine St.loadS h ?_) | (with_reducible refine a_fld0 ?_) | (with_reducible refine St.store h fun W h => ?_) | (with_reducible refine St.storeS h fun W h => ?_) | (with_reducible refine St.alloc h fun b W h => ?_) | (with_reducible refine St.allocS h fun b W h => ?_) | (with_reducible refine a_nil ?_) | (with_reducible refine ss_load ?_) | (with_reducible refine ss_loadS ?_) | (with_reducible refine ss_eqb ?_)))
  refine x_lenS (h.osl (v := pv)) ?_
  refine w_min ?_
  rw [keepN_int]
  generalize keepN keep ps.length = K at k hVc hK ⊢
  have hget : ∀ {i : Nat} {c : Chg} {s : Sv}, ps[i]? = some (c, s) → d.pend[i]? = some c := fun hi => by rw [← hps, List.getElem?_map, hi]; rfl
  have hopx : ∀ {i j : Nat} {p : Chg × Sv}, ps[i]? = some p → j < 5 → (rcells opxC ps)[i * 5 + j]? = (opxC p)[j]? := fun hi hj => rc_get (f := opxC) (sz := 5) opxC_len hi hj
  refine lpx (α := Nat × Value) (fun p => [p.2, nV .i64 p.1]) (fun p W' => p.1 ≤ K ∧ Cel1 p.2 ∧ ∃ zs' fs', (∀ z ∈ zs, z ∈ zs') ∧ fs'.map Prod.fst = apps (d.pend.take p.1) d.dur ∧ FK zs' fs' ∧ fs'.length ≤ gs.length + p.1 ∧ St w0 G0 (Ky p.2 (FO fs') :: Ky b (Ob (.cells [.int .i64 d.room, nv, sv, pv, ev, .int .i64 (d.calls : Int), .bool d.down].toArray 88 (0, 0))) ::
      Ky pv (Ow 105 5 ps.length (rcells opxC ps)) :: Ky ev (Ow 107 4 d.plan.length (rcells evC d.plan)) :: Ky PoolK.a (Pl zs') :: R) W') (fun p => K - p.1) (0, sv) (fun _ => rfl) rfl ⟨Nat.zero_le _, o2, zs, gs, fun _ h => h, hgg.1, hgg.2, Nat.le_refl _, h.to⟩ ?_
  clear h
  rintro next ⟨i, lv⟩ W hnext ⟨hi, olv, zs1, fs1, hz1, hfm, hfk, hfl, h⟩
  simp only at hi olv hfm hfl h
  refine app2 ?_
  refine a_lss (ifd (fun hc => ?_) fun hc => ?_)
  · have hiK : i < K := by simp only at hc; omega
    obtain ⟨⟨c, s⟩, hcs⟩ : ∃ p, ps[i]? = some p := ⟨_, List.getElem?_eq_getElem (by omega)⟩
    (repeat (first | (with_reducible refine ift ?_) | (with_reducible refine iff' ?_) | (with_reducible refine a_lss ?_) | (with_reducible refine a_leq ?_) | (with_reducible refine a_gtr ?_) | (with_reducible refine a_geq ?_) | (with_reducible refine w_eql ?_) | (with_reducible refine w_neq ?_) | (with_reducible refine s_eql ?_) | (with_reducible refine s_neq ?_) | ((with_reducible refine a_add64 ?h0 ?h1 ?_); (case h0 => omega); (case h1 => omega);  skip) | ((with_reducible refine a_sub64 ?h0 ?h1 ?_); (case h0 => omega); (case h1 => omega);  skip) | ((with_reducible refine a_mul64 ?h0 ?h1 ?_); (case h0 => omega); (case h1 => omega);  skip) | (with_reducible refine a_notd ?_) | (with_reducible refine a_not ?_) | (with_reducible refine a_ext0 ?_) | (with_reducible refine a_ext1 ?_) | (with_reducible refine a_ext2 ?_) | (with_reducible refine x_len ?_) | (with_reducible refine x_lens ?_) | (with_reducible refine x_eqb ?_) | (with_reducible refine x_neb ?_) | (with_reducible refine x_nilP ?_) | (with_reducible refine x_nilPn ?_) | (with_reducible refine x_nilF ?_) | (with_reducible refine x_nilFF ?_) | (with_reducible refine w_eqlL ?_) | (with_reducible refine w_neqL ?_) | (with_reducible refine s_eqlL ?_) | (with_reducible refine ifnt ?_) | (with_reducible refine ifnf ?_) | (with_reducible refine x_eqB ?_) | (with_reducible refine x_neB ?_) | (with_reducible refine x_lssL ?_) | (with_reducible refine x_gtrL ?_) | (with_reducible refine x_geqL ?_) | (with_reducible refine s_neqL ?_) | (with_reducible refine St.load h ?_) | (with_reducible refine St.loadS h ?_) | (with_reducible refine a_fld0 ?_) | (with_reducible refine St.store h fun W h => ?_) | (with_reducible refine St.storeS h fun W h => ?_) | (with_reducible refine St.alloc h fun b W h => ?_) | (with_reducible refine St.allocS h fun b W h => ?_) | (with_reducible refine a_nil ?_) | (with_reducible refine ss_load ?_) | (with_reducible refine ss_loadS ?_) | (with_reducible refine ss_eqb ?_)))
    refine x_idx (h.osl (v := pv)) (by omega) fun g o hcell => ?_
    refine x_lds (cs := opxC (c, s)) (opxC_len _) (fun j u hu => hcell j u (by have := (List.getElem?_eq_some_iff.1 hu).1; rw [opxC_len] at this; exact this) (by rw [hopx hcs (by have := (List.getElem?_eq_some_iff.1 hu).1; rw [opxC_len] at this; exact this), hu])) ?_
    refine apply_spec (lv := lv) (c := c) (sv := s) h (by omega) (by rw [hfm]; exact hV.gm.apps (oks_take hV.ok i)) (by rw [hfm]; exact oks_get hV.ok (hget hcs)) hfk ((hck _ (List.mem_of_getElem? hcs)).sub hz1) fun zs2 v2 fs2 W hz2 ov2 hfm2 hfk2 hfl2 h => ?_
    refine a_add64 (by omega) (by omega) ?_
    rw [show ((i : Int) + 1) = ((i + 1 : Nat) : Int) by push_cast; rfl]
    exact ⟨rfl, rfl, rfl, hnext (i + 1, v2) W (by simp only; omega) ⟨by simp only; omega, ov2, zs2, fs2, fun z hz => hz2 z (hz1 z hz), by rw [hfm2, hfm]; exact (apps_take_succ (hget hcs)).symm, hfk2, by simp only; omega, h.to⟩⟩
  have hiK : i = K := by simp only at hc; omega
  subst hiK
  refine jni (fun vs W' => ∃ lv2, vs = [.pointer (some ⟨b, 0, none⟩), lv2] ∧ Cel1 lv2 ∧ ∃ zs' fs', (∀ z ∈ zs, z ∈ zs') ∧ fs'.map Prod.fst = tornM d.pend[i]? torn (apps (d.pend.take i) d.dur) ∧ FK zs' fs' ∧ fs'.length ≤ 800000 ∧ St w0 G0 (Ky lv2 (FO fs') :: Ky b (Ob (.cells [.int .i64 d.room, nv, sv, pv, ev, .int .i64 (d.calls : Int), .bool d.down].toArray 88 (0, 0))) ::
      Ky pv (Ow 105 5 ps.length (rcells opxC ps)) :: Ky ev (Ow 107 4 d.plan.length (rcells evC d.plan)) :: Ky PoolK.a (Pl zs') :: R) W') ?_ ?_
  · clear h
    rintro vs W2 _ ⟨lv2, rfl, ol2, zs2, fs2, hz2, hfm2, hfk2, hfl2, h⟩
    refine app2 ?_
    refine h.lit (vs := []) (cs := []) (fun u W o h => ?_) (by decide)
    refine h.app (v := u) (h.osl (v := lv2)) (fileC_one fs2) (by unfold maxLen; omega) (by omega) fun u2 W ou2 h _ => ?_
    rw [Nat.zero_add, List.nil_append] at h
    (repeat (first | (with_reducible refine ift ?_) | (with_reducible refine iff' ?_) | (with_reducible refine a_lss ?_) | (with_reducible refine a_leq ?_) | (with_reducible refine a_gtr ?_) | (with_reducible refine a_geq ?_) | (with_reducible refine w_eql ?_) | (with_reducible refine w_neq ?_) | (with_reducible refine s_eql ?_) | (with_reducible refine s_neq ?_) | ((with_reducible refine a_add64 ?h0 ?h1 ?_); (case h0 => omega); (case h1 => omega);  skip) | ((with_reducible refine a_sub64 ?h0 ?h1 ?_); (case h0 => omega); (case h1 => omega);  skip) | ((with_reducible refine a_mul64 ?h0 ?h1 ?_); (case h0 => omega); (case h1 => omega);  skip) | (with_reducible refine a_notd ?_) | (with_reducible refine a_not ?_) | (with_reducible refine a_ext0 ?_) | (with_reducible refine a_ext1 ?_) | (with_reducible refine a_ext2 ?_) | (with_reducible refine x_len ?_) | (with_reducible refine x_lens ?_) | (with_reducible refine x_eqb ?_) | (with_reducible refine x_neb ?_) | (with_reducible refine x_nilP ?_) | (with_reducible refine x_nilPn ?_) | (with_reducible refine x_nilF ?_) | (with_reducible refine x_nilFF ?_) | (with_reducible refine w_eqlL ?_) | (with_reducible refine w_neqL ?_) | (with_reducible refine s_eqlL ?_) | (with_reducible refine ifnt ?_) | (with_reducible refine ifnf ?_) | (with_reducible refine x_eqB ?_) | (with_reducible refine x_neB ?_) | (with_reducible refine x_lssL ?_) | (with_reducible refine x_gtrL ?_) | (with_reducible refine x_geqL ?_) | (with_reducible refine s_neqL ?_) | (with_reducible refine St.load h ?_) | (with_reducible refine St.loadS h ?_) | (with_reducible refine a_fld0 ?_) | (with_reducible refine St.store h fun W h => ?_) | (with_reducible refine St.storeS h fun W h => ?_) | (with_reducible refine St.alloc h fun b W h => ?_) | (with_reducible refine St.allocS h fun b W h => ?_) | (with_reducible refine a_nil ?_) | (with_reducible refine ss_load ?_) | (with_reducible refine ss_loadS ?_) | (with_reducible refine ss_eqb ?_)))
    have h1 : St w0 G0 (Ky (.slice none 0 0 : Value) (Ow 105 5 0 []) :: _) W := h.nilOw
    exact k zs2 W hz2 (St.to (shutX (b := b) (nv := lv2) (sv := u2) (pv := .slice none 0 0) (ev := ev) (fs := fs2) (gs := fs2) (ps := []) (zs := zs2) _ h1 hVc ⟨hfm2, hfk2⟩ ⟨hfm2, hfk2⟩ rfl (fun p hp => (by cases hp)) rfl rfl rfl rfl rfl rfl rfl rfl rfl))
  have skip : tornM d.pend[i]? torn (apps (d.pend.take i) d.dur) = apps (d.pend.take i) d.dur → lamN 2 (fun vs W' => ∃ lv2, vs = [.pointer (some ⟨b, 0, none⟩), lv2] ∧ Cel1 lv2 ∧ ∃ zs' fs', (∀ z ∈ zs, z ∈ zs') ∧ fs'.map Prod.fst = tornM d.pend[i]? torn (apps (d.pend.take i) d.dur) ∧ FK zs' fs' ∧ fs'.length ≤ 800000 ∧ St w0 G0 (Ky lv2 (FO fs') :: Ky b (Ob (.cells [.int .i64 d.room, nv, sv, pv, ev, .int .i64 (d.calls : Int), .bool d.down].toArray 88 (0, 0))) ::
      Ky pv (Ow 105 5 ps.length (rcells opxC ps)) :: Ky ev (Ow 107 4 d.plan.length (rcells evC d.plan)) :: Ky PoolK.a (Pl zs') :: R) W') (.pointer (some ⟨b, 0, none⟩)) lv W := fun e => ⟨lv, rfl, olv, zs1, fs1, hz1, hfm.trans e.symm, hfk, by omega, h⟩
  (repeat (first | (with_reducible refine ift ?_) | (with_reducible refine iff' ?_) | (with_reducible refine a_lss ?_) | (with_reducible refine a_leq ?_) | (with_reducible refine a_gtr ?_) | (with_reducible refine a_geq ?_) | (with_reducible refine w_eql ?_) | (with_reducible refine w_neq ?_) | (with_reducible refine s_eql ?_) | (with_reducible refine s_neq ?_) | ((with_reducible refine a_add64 ?h0 ?h1 ?_); (case h0 => omega); (case h1 => omega);  skip) | ((with_reducible refine a_sub64 ?h0 ?h1 ?_); (case h0 => omega); (case h1 => omega);  skip) | ((with_reducible refine a_mul64 ?h0 ?h1 ?_); (case h0 => omega); (case h1 => omega);  skip) | (with_reducible refine a_notd ?_) | (with_reducible refine a_not ?_) | (with_reducible refine a_ext0 ?_) | (with_reducible refine a_ext1 ?_) | (with_reducible refine a_ext2 ?_) | (with_reducible refine x_len ?_) | (with_reducible refine x_lens ?_) | (with_reducible refine x_eqb ?_) | (with_reducible refine x_neb ?_) | (with_reducible refine x_nilP ?_) | (with_reducible refine x_nilPn ?_) | (with_reducible refine x_nilF ?_) | (with_reducible refine x_nilFF ?_) | (with_reducible refine w_eqlL ?_) | (with_reducible refine w_neqL ?_) | (with_reducible refine s_eqlL ?_) | (with_reducible refine ifnt ?_) | (with_reducible refine ifnf ?_) | (with_reducible refine x_eqB ?_) | (with_reducible refine x_neB ?_) | (with_reducible refine x_lssL ?_) | (with_reducible refine x_gtrL ?_) | (with_reducible refine x_geqL ?_) | (with_reducible refine s_neqL ?_) | (with_reducible refine St.load h ?_) | (with_reducible refine St.loadS h ?_) | (with_reducible refine a_fld0 ?_) | (with_reducible refine St.store h fun W h => ?_) | (with_reducible refine St.storeS h fun W h => ?_) | (with_reducible refine St.alloc h fun b W h => ?_) | (with_reducible refine St.allocS h fun b W h => ?_) | (with_reducible refine a_nil ?_) | (with_reducible refine ss_load ?_) | (with_reducible refine ss_loadS ?_) | (with_reducible refine ss_eqb ?_)))
  refine x_lenS (h.osl (v := pv)) ?_
  refine a_lss (ifd (fun hlt => ?_) fun hlt => ?_)
  · have hip : i < ps.length := by omega
    obtain ⟨⟨c, s⟩, hcs⟩ : ∃ p, ps[i]? = some p := ⟨_, List.getElem?_eq_getElem hip⟩
    have hc' := hget hcs
    (repeat (first | (with_reducible refine ift ?_) | (with_reducible refine iff' ?_) | (with_reducible refine a_lss ?_) | (with_reducible refine a_leq ?_) | (with_reducible refine a_gtr ?_) | (with_reducible refine a_geq ?_) | (with_reducible refine w_eql ?_) | (with_reducible refine w_neq ?_) | (with_reducible refine s_eql ?_) | (with_reducible refine s_neq ?_) | ((with_reducible refine a_add64 ?h0 ?h1 ?_); (case h0 => omega); (case h1 => omega);  skip) | ((with_reducible refine a_sub64 ?h0 ?h1 ?_); (case h0 => omega); (case h1 => omega);  skip) | ((with_reducible refine a_mul64 ?h0 ?h1 ?_); (case h0 => omega); (case h1 => omega);  skip) | (with_reducible refine a_notd ?_) | (with_reducible refine a_not ?_) | (with_reducible refine a_ext0 ?_) | (with_reducible refine a_ext1 ?_) | (with_reducible refine a_ext2 ?_) | (with_reducible refine x_len ?_) | (with_reducible refine x_lens ?_) | (with_reducible refine x_eqb ?_) | (with_reducible refine x_neb ?_) | (with_reducible refine x_nilP ?_) | (with_reducible refine x_nilPn ?_) | (with_reducible refine x_nilF ?_) | (with_reducible refine x_nilFF ?_) | (with_reducible refine w_eqlL ?_) | (with_reducible refine w_neqL ?_) | (with_reducible refine s_eqlL ?_) | (with_reducible refine ifnt ?_) | (with_reducible refine ifnf ?_) | (with_reducible refine x_eqB ?_) | (with_reducible refine x_neB ?_) | (with_reducible refine x_lssL ?_) | (with_reducible refine x_gtrL ?_) | (with_reducible refine x_geqL ?_) | (with_reducible refine s_neqL ?_) | (with_reducible refine St.load h ?_) | (with_reducible refine St.loadS h ?_) | (with_reducible refine a_fld0 ?_) | (with_reducible refine St.store h fun W h => ?_) | (with_reducible refine St.storeS h fun W h => ?_) | (with_reducible refine St.alloc h fun b W h => ?_) | (with_reducible refine St.allocS h fun b W h => ?_) | (with_reducible refine a_nil ?_) | (with_reducible refine ss_load ?_) | (with_reducible refine ss_loadS ?_) | (with_reducible refine ss_eqb ?_)))
    cases c with
    | puts key x =>
      have e0 : tornM d.pend[i]? torn (apps (d.pend.take i) d.dur) = if 0 ≤ torn ∧ torn < x.length then (Chg.puts key (x.take torn.toNat)).app (apps (d.pend.take i) d.dur) else apps (d.pend.take i) d.dur := by rw [hc']; rfl
      have hck1 : PlIn zs1 (svV s) x := (hck _ (List.mem_of_getElem? hcs)).sub hz1
      have hok := oks_get hV.ok hc'
      have hok2 : tot (apps (d.pend.take i) d.dur) + x.length ≤ 1073741824 := hok
      refine x_fld (h.osl (v := pv)) hip (off := 0) (by decide) ((hopx hcs (by decide)).trans rfl) ?_
      refine w_eql (ifd_pos rfl ?_)
      refine a_geq (ifd (fun ht0 => ?_) fun ht0 => ?_)
      · (repeat (first | (with_reducible refine ift ?_) | (with_reducible refine iff' ?_) | (with_reducible refine a_lss ?_) | (with_reducible refine a_leq ?_) | (with_reducible refine a_gtr ?_) | (with_reducible refine a_geq ?_) | (with_reducible refine w_eql ?_) | (with_reducible refine w_neq ?_) | (with_reducible refine s_eql ?_) | (with_reducible refine s_neq ?_) | ((with_reducible refine a_add64 ?h0 ?h1 ?_); (case h0 => omega); (case h1 => omega);  skip) | ((with_reducible refine a_sub64 ?h0 ?h1 ?_); (case h0 => omega); (case h1 => omega);  skip) | ((with_reducible refine a_mul64 ?h0 ?h1 ?_); (case h0 => omega); (case h1 => omega);  skip) | (with_reducible refine a_notd ?_) | (with_reducible refine a_not ?_) | (with_reducible refine a_ext0 ?_) | (with_reducible refine a_ext1 ?_) | (with_reducible refine a_ext2 ?_) | (with_reducible refine x_len ?_) | (with_reducible refine x_lens ?_) | (with_reducible refine x_eqb ?_) | (with_reducible refine x_neb ?_) | (with_reducible refine x_nilP ?_) | (with_reducible refine x_nilPn ?_) | (with_reducible refine x_nilF ?_) | (with_reducible refine x_nilFF ?_) | (with_reducible refine w_eqlL ?_) | (with_reducible refine w_neqL ?_) | (with_reducible refine s_eqlL ?_) | (with_reducible refine ifnt ?_) | (with_reducible refine ifnf ?_) | (with_reducible refine x_eqB ?_) | (with_reducible refine x_neB ?_) | (with_reducible refine x_lssL ?_) | (with_reducible refine x_gtrL ?_) | (with_reducible refine x_geqL ?_) | (with_reducible refine s_neqL ?_) | (with_reducible refine St.load h ?_) | (with_reducible refine St.loadS h ?_) | (with_reducible refine a_fld0 ?_) | (with_reducible refine St.store h fun W h => ?_) | (with_reducible refine St.storeS h fun W h => ?_) | (with_reducible refine St.alloc h fun b W h => ?_) | (with_reducible refine St.allocS h fun b W h => ?_) | (with_reducible refine a_nil ?_) | (with_reducible refine ss_load ?_) | (with_reducible refine ss_loadS ?_) | (with_reducible refine ss_eqb ?_)))
        refine x_fld (h.osl (v := pv)) hip (off := 4) (by decide) ((hopx hcs (by decide)).trans rfl) ?_
        refine x_lenS (h.plGet .a hck1) ?_
        refine a_lss (ifd (fun ht1 => ?_) fun ht1 => ?_)
        · (repeat (first | (with_reducible refine ift ?_) | (with_reducible refine iff' ?_) | (with_reducible refine a_lss ?_) | (with_reducible refine a_leq ?_) | (with_reducible refine a_gtr ?_) | (with_reducible refine a_geq ?_) | (with_reducible refine w_eql ?_) | (with_reducible refine w_neq ?_) | (with_reducible refine s_eql ?_) | (with_reducible refine s_neq ?_) | ((with_reducible refine a_add64 ?h0 ?h1 ?_); (case h0 => omega); (case h1 => omega);  skip) | ((with_reducible refine a_sub64 ?h0 ?h1 ?_); (case h0 => omega); (case h1 => omega);  skip) | ((with_reducible refine a_mul64 ?h0 ?h1 ?_); (case h0 => omega); (case h1 => omega);  skip) | (with_reducible refine a_notd ?_) | (with_reducible refine a_not ?_) | (with_reducible refine a_ext0 ?_) | (with_reducible refine a_ext1 ?_) | (with_reducible refine a_ext2 ?_) | (with_reducible refine x_len ?_) | (with_reducible refine x_lens ?_) | (with_reducible refine x_eqb ?_) | (with_reducible refine x_neb ?_) | (with_reducible refine x_nilP ?_) | (with_reducible refine x_nilPn ?_) | (with_reducible refine x_nilF ?_) | (with_reducible refine x_nilFF ?_) | (with_reducible refine w_eqlL ?_) | (with_reducible refine w_neqL ?_) | (with_reducible refine s_eqlL ?_) | (with_reducible refine ifnt ?_) | (with_reducible refine ifnf ?_) | (with_reducible refine x_eqB ?_) | (with_reducible refine x_neB ?_) | (with_reducible refine x_lssL ?_) | (with_reducible refine x_gtrL ?_) | (with_reducible refine x_geqL ?_) | (with_reducible refine s_neqL ?_) | (with_reducible refine St.load h ?_) | (with_reducible refine St.loadS h ?_) | (with_reducible refine a_fld0 ?_) | (with_reducible refine St.store h fun W h => ?_) | (with_reducible refine St.storeS h fun W h => ?_) | (with_reducible refine St.alloc h fun b W h => ?_) | (with_reducible refine St.allocS h fun b W h => ?_) | (with_reducible refine a_nil ?_) | (with_reducible refine ss_load ?_) | (with_reducible refine ss_loadS ?_) | (with_reducible refine ss_eqb ?_)))
          refine x_idx (h.osl (v := pv)) hip fun g o hcell => ?_
          refine x_lds (cs := opxC (.puts key x, s)) (opxC_len _) (fun j u hu => hcell j u (by have := (List.getElem?_eq_some_iff.1 hu).1; rw [opxC_len] at this; exact this) (by rw [hopx hcs (by have := (List.getElem?_eq_some_iff.1 hu).1; rw [opxC_len] at this; exact this), hu])) ?_
          refine h.allocS fun bx W h => ?_
          refine h.storeS (cs' := opxC (.puts key x, s)) fun W h => ?_
          simp only [opxC] at h
          (repeat (first | (with_reducible refine ift ?_) | (with_reducible refine iff' ?_) | (with_reducible refine a_lss ?_) | (with_reducible refine a_leq ?_) | (with_reducible refine a_gtr ?_) | (with_reducible refine a_geq ?_) | (with_reducible refine w_eql ?_) | (with_reducible refine w_neq ?_) | (with_reducible refine s_eql ?_) | (with_reducible refine s_neq ?_) | ((with_reducible refine a_add64 ?h0 ?h1 ?_); (case h0 => omega); (case h1 => omega);  skip) | ((with_reducible refine a_sub64 ?h0 ?h1 ?_); (case h0 => omega); (case h1 => omega);  skip) | ((with_reducible refine a_mul64 ?h0 ?h1 ?_); (case h0 => omega); (case h1 => omega);  skip) | (with_reducible refine a_notd ?_) | (with_reducible refine a_not ?_) | (with_reducible refine a_ext0 ?_) | (with_reducible refine a_ext1 ?_) | (with_reducible refine a_ext2 ?_) | (with_reducible refine x_len ?_) | (with_reducible refine x_lens ?_) | (with_reducible refine x_eqb ?_) | (with_reducible refine x_neb ?_) | (with_reducible refine x_nilP ?_) | (with_reducible refine x_nilPn ?_) | (with_reducible refine x_nilF ?_) | (with_reducible refine x_nilFF ?_) | (with_reducible refine w_eqlL ?_) | (with_reducible refine w_neqL ?_) | (with_reducible refine s_eqlL ?_) | (with_reducible refine ifnt ?_) | (with_reducible refine ifnf ?_) | (with_reducible refine x_eqB ?_) | (with_reducible refine x_neB ?_) | (with_reducible refine x_lssL ?_) | (with_reducible refine x_gtrL ?_) | (with_reducible refine x_geqL ?_) | (with_reducible refine s_neqL ?_) | (with_reducible refine St.load h ?_) | (with_reducible refine St.loadS h ?_) | (with_reducible refine a_fld0 ?_) | (with_reducible refine St.store h fun W h => ?_) | (with_reducible refine St.storeS h fun W h => ?_) | (with_reducible refine St.alloc h fun b W h => ?_) | (with_reducible refine St.allocS h fun b W h => ?_) | (with_reducible refine a_nil ?_) | (with_reducible refine ss_load ?_) | (with_reducible refine ss_loadS ?_) | (with_reducible refine ss_eqb ?_)))
          refine a_sliceH elB (h.plGet .a hck1) (by omega) (by omega) fun v2 hv2 => ?_
          refine copyBytes_spec (By.cutP (by omega) (by omega) hv2) (by rw [List.length_take]; omega) fun v3 W g1 g2 => ?_
          replace h := h.take g2 g1
          obtain ⟨sv3, rfl⟩ := (show By W v3 (x.take torn.toNat) from h.osl (v := v3)).sv
          (repeat (first | (with_reducible refine ift ?_) | (with_reducible refine iff' ?_) | (with_reducible refine a_lss ?_) | (with_reducible refine a_leq ?_) | (with_reducible refine a_gtr ?_) | (with_reducible refine a_geq ?_) | (with_reducible refine w_eql ?_) | (with_reducible refine w_neq ?_) | (with_reducible refine s_eql ?_) | (with_reducible refine s_neq ?_) | ((with_reducible refine a_add64 ?h0 ?h1 ?_); (case h0 => omega); (case h1 => omega);  skip) | ((with_reducible refine a_sub64 ?h0 ?h1 ?_); (case h0 => omega); (case h1 => omega);  skip) | ((with_reducible refine a_mul64 ?h0 ?h1 ?_); (case h0 => omega); (case h1 => omega);  skip) | (with_reducible refine a_notd ?_) | (with_reducible refine a_not ?_) | (with_reducible refine a_ext0 ?_) | (with_reducible refine a_ext1 ?_) | (with_reducible refine a_ext2 ?_) | (with_reducible refine x_len ?_) | (with_reducible refine x_lens ?_) | (with_reducible refine x_eqb ?_) | (with_reducible refine x_neb ?_) | (with_reducible refine x_nilP ?_) | (with_reducible refine x_nilPn ?_) | (with_reducible refine x_nilF ?_) | (with_reducible refine x_nilFF ?_) | (with_reducible refine w_eqlL ?_) | (with_reducible refine w_neqL ?_) | (with_reducible refine s_eqlL ?_) | (with_reducible refine ifnt ?_) | (with_reducible refine ifnf ?_) | (with_reducible refine x_eqB ?_) | (with_reducible refine x_neB ?_) | (with_reducible refine x_lssL ?_) | (with_reducible refine x_gtrL ?_) | (with_reducible refine x_geqL ?_) | (with_reducible refine s_neqL ?_) | (with_reducible refine St.load h ?_) | (with_reducible refine St.loadS h ?_) | (with_reducible refine a_fld0 ?_) | (with_reducible refine St.store h fun W h => ?_) | (with_reducible refine St.storeS h fun W h => ?_) | (with_reducible refine St.alloc h fun b W h => ?_) | (with_reducible refine St.allocS h fun b W h => ?_) | (with_reducible refine a_nil ?_) | (with_reducible refine ss_load ?_) | (with_reducible refine ss_loadS ?_) | (with_reducible refine ss_eqb ?_)))
          replace h := h.plAdd .a (v := svV sv3) (x := x.take torn.toNat) rfl rfl
          rw [if_pos ⟨ht0, ht1⟩] at e0
          refine apply_spec (lv := lv) (c := .puts key (x.take torn.toNat)) (sv := sv3) h (by omega) (by rw [hfm]; exact hV.gm.apps (oks_take hV.ok i)) (by rw [hfm]; show tot (apps (d.pend.take i) d.dur) + (x.take torn.toNat).length ≤ 1073741824; rw [List.length_take]; omega) (hfk.sub subZ) (.inl List.mem_cons_self) fun zs2 v2 fs2 W hz2 ov2 hfm2 hfk2 hfl2 h => ?_
          exact ⟨v2, rfl, ov2, zs2, fs2, fun z hz => hz2 z (subZ z (hz1 z hz)), by rw [hfm2, hfm, e0], hfk2, by omega, h.to⟩
        · exact skip (by rw [e0, if_neg (by omega)])
      · exact skip (by rw [e0, if_neg (by omega)])
    | cuts key n =>
      refine x_fld (h.osl (v := pv)) hip (off := 0) (by decide) ((hopx hcs (by decide)).trans rfl) ?_
      refine w_eql (ifd_neg (by decide) ?_)
      exact skip (by rw [hc']; rfl)
    | names key to =>
      refine x_fld (h.osl (v := pv)) hip (off := 0) (by decide) ((hopx hcs (by decide)).trans rfl) ?_
      refine w_eql (ifd_neg (by decide) ?_)
      exact skip (by rw [hc']; rfl)
    | takes key =>
      refine x_fld (h.osl (v := pv)) hip (off := 0) (by decide) ((hopx hcs (by decide)).trans rfl) ?_
      refine w_eql (ifd_neg (by decide) ?_)
      exact skip (by rw [hc']; rfl)
  · refine skip ?_
    have : d.pend[i]? = none := List.getElem?_eq_none (by omega)
    rw [this]; rfl
/-- begin -/
theorem begin_spec {named : Bool} [i : Has l v (Xk zs d) R1] [j : Has R1 PoolK.a (Pl zs) R] (h : St w0 G0 l W) (hc : d.calls ≤ 300000) (hn : s.length ≤ 1000000000)
    (k : ∀ zs' W', (∀ z ∈ zs, z ∈ zs') → St w0 G0 (Ky v (Xk zs' (d.call (if named then [s] else [])).1) :: Ky PoolK.a (Pl zs') :: R) W' → RR (.tuple #[.bool (d.call (if named then [s] else [])).2.1, .int .i64 (d.call (if named then [s] else [])).2.2]) W') : CallF Try.prog 74 #[v, strV s, .bool named] W RR := by
  refine sh74_calls ?_
  unfold sh74
  replace h := has2 (k := v) (k' := PoolK.a) h
  obtain ⟨b, nv, sv, pv, ev, fs, gs, ps, rfl, hV, hf, hgg, hps, hcks, ⟨o1, o2, o3, o4⟩, h3⟩ := openX (v := v) h
  clear h
  have h := h3
  clear h3
  (repeat (first | (with_reducible refine ift ?_) | (with_reducible refine iff' ?_) | (with_reducible refine a_lss ?_) | (with_reducible refine a_leq ?_) | (with_reducible refine a_gtr ?_) | (with_reducible refine a_geq ?_) | (with_reducible refine w_eql ?_) | (with_reducible refine w_neq ?_) | (with_reducible refine s_eql ?_) | (with_reducible refine s_neq ?_) | ((with_reducible refine a_add64 ?h0 ?h1 ?_); (case h0 => omega); (case h1 => omega);  skip) | ((with_reducible refine a_sub64 ?h0 ?h1 ?_); (case h0 => omega); (case h1 => omega);  skip) | ((with_reducible refine a_mul64 ?h0 ?h1 ?_); (case h0 => omega); (case h1 => omega);  skip) | (with_reducible refine a_notd ?_) | (with_reducible refine a_not ?_) | (with_reducible refine a_ext0 ?_) | (with_reducible refine a_ext1 ?_) | (with_reducible refine a_ext2 ?_) | (with_reducible refine x_len ?_) | (with_reducible refine x_lens ?_) | (with_reducible refine x_eqb ?_) | (with_reducible refine x_neb ?_) | (with_reducible refine x_nilP ?_) | (with_reducible refine x_nilPn ?_) | (with_reducible refine x_nilF ?_) | (with_reducible refine x_nilFF ?_) | (with_reducible refine w_eqlL ?_) | (with_reducible refine w_neqL ?_) | (with_reducible refine s_eqlL ?_) | (with_reducible refine ifnt ?_) | (with_reducible refine ifnf ?_) | (with_reducible refine x_eqB ?_) | (with_reducible refine x_neB ?_) | (with_reducible refine x_lssL ?_) | (with_reducible refine x_gtrL ?_) | (with_reducible refine x_geqL ?_) | (with_reducible refine s_neqL ?_) | (with_reducible refine St.load h ?_) | (with_reducible refine St.loadS h ?_) | (with_reducible refine a_fld0 ?_) | (with_reducible refine St.store h fun W h => ?_) | (with_reducible refine St.storeS h fun W h => ?_) | (with_reducible refine St.alloc h fun b W h => ?_) | (with_reducible refine St.allocS h fun b W h => ?_) | (with_reducible refine a_nil ?_) | (with_reducible refine ss_load ?_) | (with_reducible refine ss_loadS ?_) | (with_reducible refine ss_eqb ?_)))
  have hd0 := hV.tick
  replace h := shutX (b := b) (nv := nv) (sv := sv) (pv := pv) (ev := ev) (fs := fs) (gs := gs) (ps := ps) (zs := zs) d.tick h hd0 hf hgg hps hcks (by simp [Dd.tick]) rfl rfl rfl rfl rfl rfl rfl rfl
  generalize hns : (if named then [s] else [] : List Txt) = ns at k
  have hk : d.call ns = ((evs d.plan d.tick false).1, (evs d.plan d.tick false).2, if (evs d.plan d.tick false).1.down then 9 else if ns.all okN then 0 else 11) := rfl
  rw [hk] at k
  have hct : d.tick.calls = d.calls + 1 := rfl
  generalize hd0e : d.tick = d0 at h hd0 k hct
  have hp0 : d0.plan = d.plan := by rw [← hd0e]; rfl
  have hpl := hV.plan
  clear hf hgg hps hcks
  refine lpx (α := Nat) (fun i => [.bool (evs (d.plan.take i) d0 false).2, nV .i64 i]) (fun i W' => i ≤ d.plan.length ∧ ∃ zs', (∀ z ∈ zs, z ∈ zs') ∧ St w0 G0 (Ky (.pointer (some ⟨b, 0, none⟩) : Value) (Xk zs' (evs (d.plan.take i) d0 false).1) :: Ky PoolK.a (Pl zs') :: R) W') (fun i => d.plan.length - i) 0 (fun _ => rfl) rfl ⟨Nat.zero_le _, zs, fun _ h => h, h⟩ ?_
  clear h
  rintro next i W hnext ⟨hi, zs1, hz1, h⟩
  refine app2 ?_
  have hev := evs_calls (d.plan.take i) d0 false
  obtain ⟨b', nv2, sv2, pv2, ev2, fs2, gs2, ps2, hv, hV2, hf2, hgg2, hps2, hcks2, _, h3⟩ := openX (v := (.pointer (some ⟨b, 0, none⟩) : Value)) h
  cases hv
  have hsl : Sl W 4 ev2 d.plan.length (rcells evC d.plan) := by
    have := h3.osl (v := ev2)
    rw [hev.2.1, hp0] at this
    exact this
  refine a_nil (a_fld0 (h3.load ?_))
  refine x_lenS hsl ?_
  refine a_lss (ifd (fun hlt => ?_) fun hlt => ?_)
  · have hil : i < d.plan.length := by omega
    obtain ⟨e, he⟩ : ∃ e, d.plan[i]? = some e := ⟨_, List.getElem?_eq_getElem hil⟩
    have hsucc := evs_succ he d0 false
    rw [evs_one] at hsucc
    have hcl : (evs (d.plan.take i) d0 false).1.calls = d0.calls := hev.1
    generalize hdi : evs (d.plan.take i) d0 false = di at h h3 hsucc hcl ⊢
    refine jni (fun vs W' => vs = [.pointer (some ⟨b, 0, none⟩), strV s, .bool named, .bool (evs (d.plan.take (i + 1)) d0 false).2, nV .i64 i] ∧ ∃ zs', (∀ z ∈ zs, z ∈ zs') ∧ St w0 G0 (Ky (.pointer (some ⟨b, 0, none⟩) : Value) (Xk zs' (evs (d.plan.take (i + 1)) d0 false).1) :: Ky PoolK.a (Pl zs') :: R) W') ?_ ?_
    · rintro vs W2 _ ⟨rfl, zs2, hz2, h⟩
      refine app5 ?_
      refine a_add64 (by omega) (by omega) ?_
      rw [show ((i : Int) + 1) = ((i + 1 : Nat) : Int) by push_cast; rfl]
      exact ⟨rfl, rfl, rfl, hnext (i + 1) W2 (by omega) ⟨by omega, zs2, hz2, h⟩⟩
    refine a_nil (a_fld0 (h3.load ?_))
    refine x_idx hsl hil fun g o hcell => ?_
    refine x_lds (cs := evC e) rfl (fun j u hu => hcell j u (List.getElem?_eq_some_iff.1 hu).1 (by rw [rc_get (f := evC) (sz := 4) (fun _ => rfl) he (List.getElem?_eq_some_iff.1 hu).1, hu])) ?_
    clear h3 hsl
    refine h.allocS fun bx W h => ?_
    refine h.storeS (cs' := evC e) fun W h => ?_
    replace h := h.drew
    obtain ⟨b', nv3, sv3, pv3, ev3, fs3, gs3, ps3, hv, hV3, hf3, hgg3, hps3, hcks3, _, h3⟩ := openX (v := (.pointer (some ⟨b, 0, none⟩) : Value)) h
    cases hv
    have hS : St w0 G0 (Ky bx (Ob (.cells [.int .i64 e.1, .int .i64 e.2.1, .int .i64 e.2.2.1, .int .i64 e.2.2.2].toArray 107 (0, 0))) :: _) W.drew := h3.find (k := bx) (X := Ob (.cells (evC e).toArray 107 (0, 0)))
    refine ⟨St w0 G0 _, hS, ?_⟩
    refine a_fld0 (ss_load (a_nil (a_fld0 (ss_load (s_neq ?_)))))
    rw [hcl] at hsucc ⊢
    have h4 : St w0 G0 (Ky bx (Ob (.cells [.int .i64 e.1, .int .i64 e.2.1, .int .i64 e.2.2.1, .int .i64 e.2.2.2].toArray 107 (0, 0))) :: Ky (.pointer (some ⟨b, 0, none⟩) : Value) (Xk zs1 di.1) :: Ky PoolK.a (Pl zs1) :: R) W.drew := h
    clear h h3 hS
    have h := h4
    clear h4
    refine ifd (fun hne => ?_) fun hne => ?_
    · rw [if_pos hne] at hsucc
      exact ⟨by rw [hsucc], zs1, hz1, by rw [hsucc]; exact h.to⟩
    rw [if_neg hne] at hsucc
    (repeat (first | (with_reducible refine ift ?_) | (with_reducible refine iff' ?_) | (with_reducible refine a_lss ?_) | (with_reducible refine a_leq ?_) | (with_reducible refine a_gtr ?_) | (with_reducible refine a_geq ?_) | (with_reducible refine w_eql ?_) | (with_reducible refine w_neq ?_) | (with_reducible refine s_eql ?_) | (with_reducible refine s_neq ?_) | ((with_reducible refine a_add64 ?h0 ?h1 ?_); (case h0 => omega); (case h1 => omega);  skip) | ((with_reducible refine a_sub64 ?h0 ?h1 ?_); (case h0 => omega); (case h1 => omega);  skip) | ((with_reducible refine a_mul64 ?h0 ?h1 ?_); (case h0 => omega); (case h1 => omega);  skip) | (with_reducible refine a_notd ?_) | (with_reducible refine a_not ?_) | (with_reducible refine a_ext0 ?_) | (with_reducible refine a_ext1 ?_) | (with_reducible refine a_ext2 ?_) | (with_reducible refine x_len ?_) | (with_reducible refine x_lens ?_) | (with_reducible refine x_eqb ?_) | (with_reducible refine x_neb ?_) | (with_reducible refine x_nilP ?_) | (with_reducible refine x_nilPn ?_) | (with_reducible refine x_nilF ?_) | (with_reducible refine x_nilFF ?_) | (with_reducible refine w_eqlL ?_) | (with_reducible refine w_neqL ?_) | (with_reducible refine s_eqlL ?_) | (with_reducible refine ifnt ?_) | (with_reducible refine ifnf ?_) | (with_reducible refine x_eqB ?_) | (with_reducible refine x_neB ?_) | (with_reducible refine x_lssL ?_) | (with_reducible refine x_gtrL ?_) | (with_reducible refine x_geqL ?_) | (with_reducible refine s_neqL ?_) | (with_reducible refine St.load h ?_) | (with_reducible refine St.loadS h ?_) | (with_reducible refine a_fld0 ?_) | (with_reducible refine St.store h fun W h => ?_) | (with_reducible refine St.storeS h fun W h => ?_) | (with_reducible refine St.alloc h fun b W h => ?_) | (with_reducible refine St.allocS h fun b W h => ?_) | (with_reducible refine a_nil ?_) | (with_reducible refine ss_load ?_) | (with_reducible refine ss_loadS ?_) | (with_reducible refine ss_eqb ?_)))
    refine jni (fun vs W' => vs = [.pointer (some ⟨b, 0, none⟩), strV s, .bool named, .bool (evs (d.plan.take (i + 1)) d0 false).2, nV .i64 i] ∧ ∃ zs', (∀ z ∈ zs, z ∈ zs') ∧ St w0 G0 (Ky (.pointer (some ⟨b, 0, none⟩) : Value) (Xk zs' (evs (d.plan.take (i + 1)) d0 false).1) :: Ky PoolK.a (Pl zs') :: R) W') ?_ ?_
    · rintro vs W2 _ ⟨rfl, h⟩
      exact app5 ⟨rfl, h⟩
    refine w_eql (ifd (fun h1 => ?_) fun h1 => ?_)
    · rw [if_pos h1] at hsucc
      (repeat (first | (with_reducible refine ift ?_) | (with_reducible refine iff' ?_) | (with_reducible refine a_lss ?_) | (with_reducible refine a_leq ?_) | (with_reducible refine a_gtr ?_) | (with_reducible refine a_geq ?_) | (with_reducible refine w_eql ?_) | (with_reducible refine w_neq ?_) | (with_reducible refine s_eql ?_) | (with_reducible refine s_neq ?_) | ((with_reducible refine a_add64 ?h0 ?h1 ?_); (case h0 => omega); (case h1 => omega);  skip) | ((with_reducible refine a_sub64 ?h0 ?h1 ?_); (case h0 => omega); (case h1 => omega);  skip) | ((with_reducible refine a_mul64 ?h0 ?h1 ?_); (case h0 => omega); (case h1 => omega);  skip) | (with_reducible refine a_notd ?_) | (with_reducible refine a_not ?_) | (with_reducible refine a_ext0 ?_) | (with_reducible refine a_ext1 ?_) | (with_reducible refine a_ext2 ?_) | (with_reducible refine x_len ?_) | (with_reducible refine x_lens ?_) | (with_reducible refine x_eqb ?_) | (with_reducible refine x_neb ?_) | (with_reducible refine x_nilP ?_) | (with_reducible refine x_nilPn ?_) | (with_reducible refine x_nilF ?_) | (with_reducible refine x_nilFF ?_) | (with_reducible refine w_eqlL ?_) | (with_reducible refine w_neqL ?_) | (with_reducible refine s_eqlL ?_) | (with_reducible refine ifnt ?_) | (with_reducible refine ifnf ?_) | (with_reducible refine x_eqB ?_) | (with_reducible refine x_neB ?_) | (with_reducible refine x_lssL ?_) | (with_reducible refine x_gtrL ?_) | (with_reducible refine x_geqL ?_) | (with_reducible refine s_neqL ?_) | (with_reducible refine St.load h ?_) | (with_reducible refine St.loadS h ?_) | (with_reducible refine a_fld0 ?_) | (with_reducible refine St.store h fun W h => ?_) | (with_reducible refine St.storeS h fun W h => ?_) | (with_reducible refine St.alloc h fun b W h => ?_) | (with_reducible refine St.allocS h fun b W h => ?_) | (with_reducible refine a_nil ?_) | (with_reducible refine ss_load ?_) | (with_reducible refine ss_loadS ?_) | (with_reducible refine ss_eqb ?_)))
      refine crashx_spec (v := (.pointer (some ⟨b, 0, none⟩) : Value)) (keep := e.2.2.1) (torn := e.2.2.2) h (by omega) fun zs2 W hz2 h => ?_
      exact ⟨by rw [hsucc], zs2, fun z hz => hz2 z (hz1 z hz), by rw [hsucc]; exact h.to⟩
    rw [if_neg h1] at hsucc
    refine jni (fun vs W' => vs = [.pointer (some ⟨b, 0, none⟩), strV s, .bool named, .bool (evs (d.plan.take (i + 1)) d0 false).2, nV .i64 i] ∧ ∃ zs', (∀ z ∈ zs, z ∈ zs') ∧ St w0 G0 (Ky (.pointer (some ⟨b, 0, none⟩) : Value) (Xk zs' (evs (d.plan.take (i + 1)) d0 false).1) :: Ky PoolK.a (Pl zs') :: R) W') ?_ ?_
    · rintro vs W2 _ ⟨rfl, h⟩
      exact app5 ⟨rfl, h⟩
    refine w_eql (ifd (fun h2 => ?_) fun h2 => ?_)
    · rw [if_pos h2] at hsucc
      exact ⟨by rw [hsucc], zs1, hz1, by rw [hsucc]; exact h.to⟩
    · rw [if_neg h2] at hsucc
      exact ⟨by rw [hsucc], zs1, hz1, by rw [hsucc]; exact h.to⟩
  · obtain rfl : i = d.plan.length := by omega
    rw [List.take_length] at h h3 ⊢
    generalize evs d.plan d0 false = r at h h3 k ⊢
    refine a_nil (a_fld0 (h3.load ?_))
    have kk := k zs1 W hz1 h
    refine ifb (fun hd => ?_) fun hd => ?_
    · rw [if_pos hd] at kk
      exact kk
    rw [if_neg (by rw [hd]; simp)] at kk
    refine jni (fun vs W' => W' = W ∧ vs = [.bool r.2] ∧ ns.all okN = true) ?_ ?_
    · rintro vs W' _ ⟨rfl, rfl, ha⟩
      rw [if_pos ha] at kk
      exact app1 kk
    · refine ifb (fun hnm => ?_) fun hnm => ?_
      · rw [hnm] at hns
        have hns' : ns = [s] := hns.symm
        refine namex_spec hn ?_
        refine a_not (ifnb (fun hx => ?_) fun hx => ?_)
        · rw [if_neg (by rw [hns']; simp [hx])] at kk
          exact kk
        · exact ⟨rfl, rfl, by rw [hns']; simp [hx]⟩
      · rw [hnm] at hns
        have hns' : ns = [] := hns.symm
        exact ⟨rfl, rfl, by rw [hns']; rfl⟩
end
end Go.Proofs.Ytdoopdbfajgnjaa
