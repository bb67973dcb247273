/-
  VERSIONS: what was to be seen stays: VersStays: the walk.
-/
import Derived.Test.YtffnabbchghokaaVerE
import Derived.Test.YtffnabbchghokaaVerS
namespace Go.Proofs.Ytffnabbchghokaa
open Go Go.Ez Go.RowKit
set_option linter.unusedSimpArgs false
set_option linter.unusedVariables false

/-- a store of these rows, of one's own -/
def VsI (w0 : World) (v : Value) (rows : VRows Txt) (low : Int) (L : List As) (W : World) : Prop := ∃ kp rs, Invs kp rs ∧ rwvs rs = rows ∧ St w0 G0 (Ky v (Vsvs rs low) :: Ky PoolK.a (Plvs kp) :: L) W
section
variable {w0 W W' : World} {l R : List As} {rs : Rsvs} {rows : VRows Txt} {low : Int} {v : Value} {RR : Value → World → Prop} {L : List As}
theorem VsI.low' (h : VsI w0 v rows low L W) : Below w0.heap.size w0 W := by
  obtain ⟨_, _, _, _, h⟩ := h
  exact h.low
theorem VsI.ext (h : VsI w0 v rows low L W) (hb : Below W.heap.size W W') : VsI w0 v rows low L W' := by
  obtain ⟨kp, rs, h1, h2, h⟩ := h
  exact ⟨kp, rs, h1, h2, h.ext hb⟩
theorem VsI.z (h : VsI w0 v rows low L W) : ∃ rs, rwvs rs = rows ∧ VsZvs rs low W v := by
  obtain ⟨kp, rs, h1, h2, h⟩ := h
  exact ⟨rs, h2, h.freezeVvs h1⟩
/-- what a call made, laid beside it -/
theorem VsI.frame {A : As} (h : VsI w0 v rows low L W) (h' : St W G0 [A] W') : VsI w0 v rows low (A :: L) W' := by
  obtain ⟨kp, rs, h1, h2, h⟩ := h
  have h3 : St w0 G0 ([] ++ A :: (Ky v (Vsvs rs low) :: Ky PoolK.a (Plvs kp) :: L)) W' := h.frame1 h'
  exact ⟨kp, rs, h1, h2, (St.behind (L := [Ky v (Vsvs rs low), Ky PoolK.a (Plvs kp)]) h3)⟩
theorem VsI.sl {v' : Value} {e : TypeId} {sz n : Nat} {cs : List Value} {L' : List As} [i : Has L v' (Ow e sz n cs) L'] (h : VsI w0 v rows low L W) : Sl W sz v' n cs := by
  obtain ⟨kp, rs, h1, h2, h⟩ := h
  exact h.osl (v := v')
theorem VsI.to {L' : List As} [i : Arr L L'] (h : VsI w0 v rows low L W) : VsI w0 v rows low L' W := by
  obtain ⟨kp, rs, h1, h2, h⟩ := h
  exact ⟨kp, rs, h1, h2, h.to⟩
/-- a new store -/
theorem VsI.new_spec (h : St w0 G0 l W) (k : ∀ b W', VsI w0 (.pointer (some ⟨b, 0, none⟩)) [] 0 l W' → RR (.pointer (some ⟨b, 0, none⟩)) W') : CallF Try.prog 20 #[] W RR := by
  refine vnewvs_spec h fun v W h _ => ?_
  obtain ⟨b, mv, hv, _⟩ := h.openVvs (v := v)
  subst hv
  exact k b W ⟨[], [], (fun r hr => by cases hr), rfl, (St.swap (h.kqNil PoolK.a verCvs 58 3))⟩
theorem VsI.put_spec {n : Nat} {o : VOp} (h : VsI w0 v rows low L W) (hb : Bd n rows) (hn : n ≤ 500000) (k : ∀ W', VsI w0 v (putR rows low o) low L W' → RR (.tuple #[]) W') : CallF Try.prog 22 #[v, .agg (VOp.cells o).toArray] W RR := by
  obtain ⟨kp, rs, h1, h2, h⟩ := h
  subst h2
  exact lput_spec h h1 hb hn fun kp' rs' W' a1 _ a3 h => k W' ⟨kp', rs', a1, a3, h⟩
theorem VsI.add_spec {n : Nat} {key val : Txt} {t : Int} (h : VsI w0 v rows low L W) (hb : Bd n rows) (hn : n ≤ 500000) (k : ∀ W', VsI w0 v (addR rows low key (t, val, false)).2 low L W' → RR (.int .i64 (addR rows low key (t, val, false)).1) W') : CallF Try.prog 29 #[v, .int .i64 t, strV key, strV val] W RR := by
  obtain ⟨kp, rs, h1, h2, h⟩ := h
  subst h2
  exact vputvs_spec h h1 hb hn fun kp' rs' W' a1 _ a3 h => k W' ⟨kp', rs', a1, a3, h⟩
theorem VsI.kill_spec {n : Nat} {key : Txt} {t : Int} (h : VsI w0 v rows low L W) (hb : Bd n rows) (hn : n ≤ 500000) (k : ∀ W', VsI w0 v (addR rows low key (t, [], true)).2 low L W' → RR (.int .i64 (addR rows low key (t, [], true)).1) W') : CallF Try.prog 30 #[v, .int .i64 t, strV key] W RR := by
  obtain ⟨kp, rs, h1, h2, h⟩ := h
  subst h2
  exact vkillvs_spec h h1 hb hn fun kp' rs' W' a1 _ a3 h => k W' ⟨kp', rs', a1, a3, h⟩
theorem VsI.prune_spec {n : Nat} {low' : Int} (h : VsI w0 v rows low L W) (hb : Bd n rows) (hn : n ≤ 500000) (k : ∀ W', VsI w0 v (pruneR rows low low').2.1 (pruneR rows low low').2.2 L W' → RR (nV .i64 (pruneR rows low low').1) W') : CallF Try.prog 26 #[v, .int .i64 low'] W RR := by
  obtain ⟨kp, rs, h1, h2, h⟩ := h
  subst h2
  exact vprunevs_spec h h1 hb hn fun kp' rs' W' a1 _ a3 h => k W' ⟨kp', rs', a1, a3, h⟩
theorem VsI.get_spec {n : Nat} {key : Txt} {t : Int} (h : VsI w0 v rows low L W) (hb : Bd n rows) (hn : n ≤ 500000) (k : ∀ W', VsI w0 v rows low L W' → RR (.tuple #[strV ((toldC (chainR rows key) t).getD default), .bool (toldC (chainR rows key) t).isSome]) W') : CallF Try.prog 28 #[v, strV key, .int .i64 t] W RR := by
  obtain ⟨rs, hr, hz⟩ := h.z
  subst hr
  exact vgetvs_spec hz hb (by omega) fun W' hb => k W' (h.ext hb)
theorem VsI.last_spec {n : Nat} {key : Txt} (h : VsI w0 v rows low L W) (hb : Bd n rows) (hn : n ≤ 500000) (k : ∀ W', VsI w0 v rows low L W' → RR (.int .i64 (lastC (chainR rows key))) W') : CallF Try.prog 32 #[v, strV key] W RR := by
  obtain ⟨rs, hr, hz⟩ := h.z
  subst hr
  exact lastvs_spec hz hb (by omega) fun W' hb => k W' (h.ext hb)
theorem VsI.count_spec {n : Nat} (h : VsI w0 v rows low L W) (hb : Bd n rows) (hn : n ≤ 500000) (k : ∀ W', VsI w0 v rows low L W' → RR (nV .i64 (countR rows)) W') : CallF Try.prog 31 #[v] W RR := by
  obtain ⟨rs, hr, hz⟩ := h.z
  subst hr
  exact vcountvs_spec hz hb (by omega) fun W' hb => k W' (h.ext hb)
theorem VsI.low_spec (h : VsI w0 v rows low L W) (k : RR (.int .i64 low) W) : CallF Try.prog 23 #[v] W RR := by
  obtain ⟨rs, hr, hz⟩ := h.z
  exact vlowvs_spec hz k
theorem VsI.first_spec (h : VsI w0 v rows low L W) (k : ∀ W', VsI w0 v rows low L W' → RR (.bool true) W') : CallF Try.prog 13 #[] W RR :=
  vfirst_spec fun W' hb => k W' (h.ext hb)
/-- what is to be seen, taken -/
theorem VsI.scan_spec {n : Nat} {lo hi : Txt} {t q : Int} (h : VsI w0 v rows low L W) (hb : Bd n rows) (hn : n ≤ 500000)
    (k : ∀ v' W', Cel1 v' → VsI w0 v rows low (Ky v' (Ow 50 2 ((scanR rows lo hi t).take q.toNat).length (pcells ((scanR rows lo hi t).take q.toNat))) :: L) W' → RR v' W') :
    CallF Try.prog 25 #[v, strV lo, strV hi, .int .i64 t] W fun f w => CallF Try.prog 24 #[f, .int .i64 q] w RR := by
  obtain ⟨rs, hr, hz⟩ := h.z
  subst hr
  refine scan_specZ hz hb (by omega) (St.start W) fun f A W1 hI of h1 => ?_
  have hsl := scanR_len (rows := rwvs rs) lo hi t
  have := hb.1
  refine vpairs_spec hI h1 (by omega) fun v' W2 o h2 => ?_
  exact k v' W2 o (h.frame h2.to)
end

section
variable {W : World} {RR : Value → World → Prop}
theorem putR_srt {rows : VRows Txt} (h : Srt rows) (low : Int) (o : VOp) : Srt (putR rows low o) := by
  unfold putR
  split
  · exact addR_srt h _ _ _
  · split
    · exact addR_srt h _ _ _
    · exact h
theorem putR_bd {rows : VRows Txt} {n : Nat} (h : Bd n rows) (low : Int) (o : VOp) : Bd (n + 1) (putR rows low o) := by
  unfold putR
  split
  · exact h.add _ _ _
  · split
    · exact h.add _ _ _
    · exact h.mono (by omega)
theorem putR_scan {rows : VRows Txt} (h : Srt rows) {low t : Int} {o : VOp} (ht : t < o.at_) (lo hi : Txt) : scanR (putR rows low o) lo hi t = scanR rows lo hi t := by
  unfold putR
  split
  · exact scanR_add h ht lo hi
  · split
    · exact scanR_add h ht lo hi
    · rfl

/-- hbllaw11.VersStays -/
theorem stays_spec {a b : List VOp} {va vb : Value} {na nb : Nat} {t : Int} {Wz : World} (ha : Sl Wz 5 va na (vopsC a)) (hna : na = a.length) (hb : Sl Wz 5 vb nb (vopsC b)) (hnb : nb = b.length) (k : ∀ W', Below Wz.heap.size Wz W' → RR (.bool true) W') :
    CallF Try.prog 4 #[va, vb, .int .i64 t] Wz RR := by
  refine sh4_calls ?_
  unfold sh4
  subst hna; subst hnb
  refine vfirst_spec fun W1 hb1 => ?_
  refine a_not (iff' ?_)
  refine VsI.new_spec ((St.start Wz).ext hb1) fun bv W2 h => ?_
  refine x_nilP (iff' ?_)
  have early : ∀ W', VsI Wz (.pointer (some ⟨bv, 0, none⟩)) [] 0 [] W' → RunW Try.prog (bin .neq 35 (.tmp 36) (.const (.pointer none)) (.pointer (some ⟨bv, 0, none⟩)) (.pointer none)) W' fun t37_5 => IfB t37_5 (CallF Try.prog 13 #[] W' fun t39_6 w => RR t39_6 w) (RR (.bool false) W') := fun W' h => by
    refine x_nilPn (ift ?_)
    exact h.first_spec fun W3 h => k W3 h.low'
  refine vfew_spec (ha.below h.low') rfl fun fa hfa => ?_
  refine a_not (ifnb (fun hf => early W2 h) fun hf => ?_)
  replace hfa := hfa hf
  refine vfew_spec (hb.below h.low') rfl fun fb hfb => ?_
  refine a_not (ifnb (fun hf => early W2 h) fun hf => ?_)
  replace hfb := hfb hf
  refine a_lss (ifd (fun _ => early W2 h) fun ht0 => ?_)
  clear early
  generalize hgv : (.pointer (some ⟨bv, 0, none⟩) : Value) = v at h ⊢
  have h0 : ∃ rows, Srt rows ∧ Bd 0 rows ∧ VsI Wz v rows 0 [] W2 := ⟨[], List.Pairwise.nil, ⟨Nat.le_refl _, fun r hr => by cases hr⟩, h⟩
  refine lpx (α := Nat) (fun i => [nV .i64 i]) (fun i W' => i ≤ a.length ∧ ∃ rows, Srt rows ∧ Bd i rows ∧ VsI Wz v rows 0 [] W') (fun i => a.length - i) 0 (fun _ => rfl) rfl ⟨Nat.zero_le _, h0⟩ ?_
  clear h h0
  rintro next i W3 hnext ⟨hi, rows, hs, hbd, h⟩
  refine app1 ?_
  have ha3 := ha.below h.low'
  refine x_lenS ha3 ?_
  refine a_lss (ifd (fun hc => ?_) fun hc => ?_)
  · obtain ⟨o, ho⟩ : ∃ d, a[i]? = some d := ⟨_, List.getElem?_eq_getElem (by omega)⟩
    refine x_idx ha3 (by omega) fun bb oo hcell => ?_
    refine x_lds (cs := VOp.cells o) rfl (fun j u hu => hcell j u (List.getElem?_eq_some_iff.1 hu).1 ((vops_get ho (List.getElem?_eq_some_iff.1 hu).1).trans hu)) ?_
    refine h.put_spec hbd (by omega) fun W4 h => ?_
    refine a_add64 (by omega) (by omega) ⟨rfl, rfl, rfl, rfl, ?_⟩
    rw [show ((i : Int) + 1) = ((i + 1 : Nat) : Int) by push_cast; rfl]
    exact hnext (i + 1) W4 (by omega) ⟨by omega, _, putR_srt hs 0 o, putR_bd hbd 0 o, h⟩
  refine h.low_spec ?_
  refine a_lss (ifd_neg ht0 ?_)
  replace hbd : Bd 300 rows := hbd.mono (by omega)
  refine h.scan_spec hbd (by omega) fun was W4 ow h => ?_
  have tk : ∀ rows : VRows Txt, Bd 600 rows → (scanR rows [] [] t).take (1048576 : Int).toNat = scanR rows [] [] t := fun rows hb => List.take_of_length_le (by
    have h1 := scanR_len (rows := rows) [] [] t
    have h2 := hb.1
    show _ ≤ 1048576
    omega)
  rw [tk rows (hbd.mono (by omega))] at h
  generalize hps : scanR rows [] [] t = ps at h
  have h0 : ∃ rows low, Srt rows ∧ Bd (300 + 0) rows ∧ scanR rows [] [] t = ps ∧ VsI Wz v rows low [Ky was (Ow 50 2 ps.length (pcells ps))] W4 := ⟨rows, 0, hs, hbd, hps, h⟩
  clear h hs hbd hps
  refine lpx (α := Nat) (fun i => [nV .i64 i]) (fun i W' => i ≤ b.length ∧ ∃ rows low, Srt rows ∧ Bd (300 + i) rows ∧ scanR rows [] [] t = ps ∧ VsI Wz v rows low [Ky was (Ow 50 2 ps.length (pcells ps))] W') (fun i => b.length - i) 0 (fun _ => rfl) rfl ⟨Nat.zero_le _, h0⟩ ?_
  clear h0
  rintro next2 j W5 hnext2 ⟨hj, rows, low, hs, hbd, hps, h⟩
  refine app1 ?_
  have hb3 := hb.below h.low'
  refine x_lenS hb3 ?_
  refine a_lss (ifd (fun hc2 => ?_) fun hc2 => ?_)
  · obtain ⟨o, ho⟩ : ∃ d, b[j]? = some d := ⟨_, List.getElem?_eq_getElem (by omega)⟩
    refine x_idx hb3 (by omega) fun bb oo hcell => ?_
    refine x_lds (cs := VOp.cells o) rfl (fun j u hu => hcell j u (List.getElem?_eq_some_iff.1 hu).1 ((vops_get ho (List.getElem?_eq_some_iff.1 hu).1).trans hu)) ?_
    obtain ⟨kp, rs, hk, hr, h⟩ := h
    refine h.allocS fun bo W h => ?_
    refine h.storeS (cs' := [.int .i64 o.kind, .int .i64 o.at_, strV o.key, strV o.v, strV o.hi]) fun W h => ?_
    replace h : St Wz G0 (Ky v (Vsvs rs low) :: Ky PoolK.a (Plvs kp) :: [Ky bo (Ob (.cells [.int .i64 o.kind, .int .i64 o.at_, strV o.key, strV o.v, strV o.hi].toArray 40 (0, 0))), Ky was (Ow 50 2 ps.length (pcells ps))]) W := h.to
    have hV : VsI Wz v rows low [Ky bo (Ob (.cells [.int .i64 o.kind, .int .i64 o.at_, strV o.key, strV o.v, strV o.hi].toArray 40 (0, 0))), Ky was (Ow 50 2 ps.length (pcells ps))] W := ⟨kp, rs, hk, hr, h⟩
    let Q : World → Prop := fun W' => ∃ rows low, Srt rows ∧ Bd (300 + (j + 1)) rows ∧ scanR rows [] [] t = ps ∧ VsI Wz v rows low [Ky was (Ow 50 2 ps.length (pcells ps))] W'
    have same : Q W := ⟨rows, low, hs, hbd.mono (by omega), hps, hV.to⟩
    refine jni (fun vs W' => vs = [vb, .int .i64 t, v, was, nV .i64 j] ∧ Q W') ?_ ?_
    · rintro vs W6 _ ⟨rfl, rows, low, h1, h2, h3, h4⟩
      refine app5 ?_
      refine a_add64 (by omega) (by omega) ⟨rfl, rfl, rfl, rfl, ?_⟩
      rw [show ((j : Int) + 1) = ((j + 1 : Nat) : Int) by push_cast; rfl]
      exact hnext2 (j + 1) W6 (by omega) ⟨by omega, rows, low, h1, h2, h3, h4⟩
    (repeat (first | (with_reducible refine ift ?_) | (with_reducible refine iff' ?_) | (with_reducible refine a_lss ?_) | (with_reducible refine a_leq ?_) | (with_reducible refine a_gtr ?_) | (with_reducible refine a_geq ?_) | (with_reducible refine w_eql ?_) | (with_reducible refine w_neq ?_) | (with_reducible refine s_eql ?_) | (with_reducible refine s_neq ?_) | ((with_reducible refine a_add64 ?h0 ?h1 ?_); (case h0 => omega); (case h1 => omega);  skip) | ((with_reducible refine a_sub64 ?h0 ?h1 ?_); (case h0 => omega); (case h1 => omega);  skip) | ((with_reducible refine a_mul64 ?h0 ?h1 ?_); (case h0 => omega); (case h1 => omega);  skip) | (with_reducible refine a_notd ?_) | (with_reducible refine a_not ?_) | (with_reducible refine a_ext0 ?_) | (with_reducible refine a_ext1 ?_) | (with_reducible refine a_ext2 ?_) | (with_reducible refine x_len ?_) | (with_reducible refine x_lens ?_) | (with_reducible refine x_eqb ?_) | (with_reducible refine x_neb ?_) | (with_reducible refine x_nilP ?_) | (with_reducible refine x_nilPn ?_) | (with_reducible refine x_nilF ?_) | (with_reducible refine x_nilFF ?_) | (with_reducible refine w_eqlL ?_) | (with_reducible refine w_neqL ?_) | (with_reducible refine s_eqlL ?_) | (with_reducible refine ifnt ?_) | (with_reducible refine ifnf ?_) | (with_reducible refine x_eqB ?_) | (with_reducible refine x_neB ?_) | (with_reducible refine x_lssL ?_) | (with_reducible refine x_gtrL ?_) | (with_reducible refine x_geqL ?_) | (with_reducible refine s_neqL ?_) | (with_reducible refine St.load h ?_) | (with_reducible refine St.loadS h ?_) | (with_reducible refine a_fld0 ?_) | (with_reducible refine St.store h fun W h => ?_) | (with_reducible refine St.storeS h fun W h => ?_) | (with_reducible refine St.alloc h fun b W h => ?_) | (with_reducible refine St.allocS h fun b W h => ?_) | (with_reducible refine a_nil ?_) | (with_reducible refine ss_load ?_) | (with_reducible refine ss_loadS ?_) | (with_reducible refine ss_eqb ?_)))
    refine ifd (fun hk2 => ?_) fun hk2 => ?_
    · (repeat (first | (with_reducible refine ift ?_) | (with_reducible refine iff' ?_) | (with_reducible refine a_lss ?_) | (with_reducible refine a_leq ?_) | (with_reducible refine a_gtr ?_) | (with_reducible refine a_geq ?_) | (with_reducible refine w_eql ?_) | (with_reducible refine w_neq ?_) | (with_reducible refine s_eql ?_) | (with_reducible refine s_neq ?_) | ((with_reducible refine a_add64 ?h0 ?h1 ?_); (case h0 => omega); (case h1 => omega);  skip) | ((with_reducible refine a_sub64 ?h0 ?h1 ?_); (case h0 => omega); (case h1 => omega);  skip) | ((with_reducible refine a_mul64 ?h0 ?h1 ?_); (case h0 => omega); (case h1 => omega);  skip) | (with_reducible refine a_notd ?_) | (with_reducible refine a_not ?_) | (with_reducible refine a_ext0 ?_) | (with_reducible refine a_ext1 ?_) | (with_reducible refine a_ext2 ?_) | (with_reducible refine x_len ?_) | (with_reducible refine x_lens ?_) | (with_reducible refine x_eqb ?_) | (with_reducible refine x_neb ?_) | (with_reducible refine x_nilP ?_) | (with_reducible refine x_nilPn ?_) | (with_reducible refine x_nilF ?_) | (with_reducible refine x_nilFF ?_) | (with_reducible refine w_eqlL ?_) | (with_reducible refine w_neqL ?_) | (with_reducible refine s_eqlL ?_) | (with_reducible refine ifnt ?_) | (with_reducible refine ifnf ?_) | (with_reducible refine x_eqB ?_) | (with_reducible refine x_neB ?_) | (with_reducible refine x_lssL ?_) | (with_reducible refine x_gtrL ?_) | (with_reducible refine x_geqL ?_) | (with_reducible refine s_neqL ?_) | (with_reducible refine St.load h ?_) | (with_reducible refine St.loadS h ?_) | (with_reducible refine a_fld0 ?_) | (with_reducible refine St.store h fun W h => ?_) | (with_reducible refine St.storeS h fun W h => ?_) | (with_reducible refine St.alloc h fun b W h => ?_) | (with_reducible refine St.allocS h fun b W h => ?_) | (with_reducible refine a_nil ?_) | (with_reducible refine ss_load ?_) | (with_reducible refine ss_loadS ?_) | (with_reducible refine ss_eqb ?_)))
      refine ifd (fun hat => ?_) fun hat => ?_
      · (repeat (first | (with_reducible refine ift ?_) | (with_reducible refine iff' ?_) | (with_reducible refine a_lss ?_) | (with_reducible refine a_leq ?_) | (with_reducible refine a_gtr ?_) | (with_reducible refine a_geq ?_) | (with_reducible refine w_eql ?_) | (with_reducible refine w_neq ?_) | (with_reducible refine s_eql ?_) | (with_reducible refine s_neq ?_) | ((with_reducible refine a_add64 ?h0 ?h1 ?_); (case h0 => omega); (case h1 => omega);  skip) | ((with_reducible refine a_sub64 ?h0 ?h1 ?_); (case h0 => omega); (case h1 => omega);  skip) | ((with_reducible refine a_mul64 ?h0 ?h1 ?_); (case h0 => omega); (case h1 => omega);  skip) | (with_reducible refine a_notd ?_) | (with_reducible refine a_not ?_) | (with_reducible refine a_ext0 ?_) | (with_reducible refine a_ext1 ?_) | (with_reducible refine a_ext2 ?_) | (with_reducible refine x_len ?_) | (with_reducible refine x_lens ?_) | (with_reducible refine x_eqb ?_) | (with_reducible refine x_neb ?_) | (with_reducible refine x_nilP ?_) | (with_reducible refine x_nilPn ?_) | (with_reducible refine x_nilF ?_) | (with_reducible refine x_nilFF ?_) | (with_reducible refine w_eqlL ?_) | (with_reducible refine w_neqL ?_) | (with_reducible refine s_eqlL ?_) | (with_reducible refine ifnt ?_) | (with_reducible refine ifnf ?_) | (with_reducible refine x_eqB ?_) | (with_reducible refine x_neB ?_) | (with_reducible refine x_lssL ?_) | (with_reducible refine x_gtrL ?_) | (with_reducible refine x_geqL ?_) | (with_reducible refine s_neqL ?_) | (with_reducible refine St.load h ?_) | (with_reducible refine St.loadS h ?_) | (with_reducible refine a_fld0 ?_) | (with_reducible refine St.store h fun W h => ?_) | (with_reducible refine St.storeS h fun W h => ?_) | (with_reducible refine St.alloc h fun b W h => ?_) | (with_reducible refine St.allocS h fun b W h => ?_) | (with_reducible refine a_nil ?_) | (with_reducible refine ss_load ?_) | (with_reducible refine ss_loadS ?_) | (with_reducible refine ss_eqb ?_)))
        refine VsI.prune_spec hV hbd (by omega) fun W4 h4 => ⟨rfl, _, _, pruneR_srt hs low _, (pruneR_bd hbd low _).mono (by omega), ?_, h4.to⟩
        rw [scanR_prune hs hat, hps]
      · refine jni (fun vs W' => vs = [vb, .int .i64 t, v, was, nV .i64 j] ∧ Q W') (by rintro vs W' _ ⟨rfl, h⟩; exact app5 ⟨rfl, h⟩) ?_
        (repeat (first | (with_reducible refine ift ?_) | (with_reducible refine iff' ?_) | (with_reducible refine a_lss ?_) | (with_reducible refine a_leq ?_) | (with_reducible refine a_gtr ?_) | (with_reducible refine a_geq ?_) | (with_reducible refine w_eql ?_) | (with_reducible refine w_neq ?_) | (with_reducible refine s_eql ?_) | (with_reducible refine s_neq ?_) | ((with_reducible refine a_add64 ?h0 ?h1 ?_); (case h0 => omega); (case h1 => omega);  skip) | ((with_reducible refine a_sub64 ?h0 ?h1 ?_); (case h0 => omega); (case h1 => omega);  skip) | ((with_reducible refine a_mul64 ?h0 ?h1 ?_); (case h0 => omega); (case h1 => omega);  skip) | (with_reducible refine a_notd ?_) | (with_reducible refine a_not ?_) | (with_reducible refine a_ext0 ?_) | (with_reducible refine a_ext1 ?_) | (with_reducible refine a_ext2 ?_) | (with_reducible refine x_len ?_) | (with_reducible refine x_lens ?_) | (with_reducible refine x_eqb ?_) | (with_reducible refine x_neb ?_) | (with_reducible refine x_nilP ?_) | (with_reducible refine x_nilPn ?_) | (with_reducible refine x_nilF ?_) | (with_reducible refine x_nilFF ?_) | (with_reducible refine w_eqlL ?_) | (with_reducible refine w_neqL ?_) | (with_reducible refine s_eqlL ?_) | (with_reducible refine ifnt ?_) | (with_reducible refine ifnf ?_) | (with_reducible refine x_eqB ?_) | (with_reducible refine x_neB ?_) | (with_reducible refine x_lssL ?_) | (with_reducible refine x_gtrL ?_) | (with_reducible refine x_geqL ?_) | (with_reducible refine s_neqL ?_) | (with_reducible refine St.load h ?_) | (with_reducible refine St.loadS h ?_) | (with_reducible refine a_fld0 ?_) | (with_reducible refine St.store h fun W h => ?_) | (with_reducible refine St.storeS h fun W h => ?_) | (with_reducible refine St.alloc h fun b W h => ?_) | (with_reducible refine St.allocS h fun b W h => ?_) | (with_reducible refine a_nil ?_) | (with_reducible refine ss_load ?_) | (with_reducible refine ss_loadS ?_) | (with_reducible refine ss_eqb ?_)))
        refine ifd (fun hk2 => ?_) fun hk2 => ?_
        · (repeat (first | (with_reducible refine ift ?_) | (with_reducible refine iff' ?_) | (with_reducible refine a_lss ?_) | (with_reducible refine a_leq ?_) | (with_reducible refine a_gtr ?_) | (with_reducible refine a_geq ?_) | (with_reducible refine w_eql ?_) | (with_reducible refine w_neq ?_) | (with_reducible refine s_eql ?_) | (with_reducible refine s_neq ?_) | ((with_reducible refine a_add64 ?h0 ?h1 ?_); (case h0 => omega); (case h1 => omega);  skip) | ((with_reducible refine a_sub64 ?h0 ?h1 ?_); (case h0 => omega); (case h1 => omega);  skip) | ((with_reducible refine a_mul64 ?h0 ?h1 ?_); (case h0 => omega); (case h1 => omega);  skip) | (with_reducible refine a_notd ?_) | (with_reducible refine a_not ?_) | (with_reducible refine a_ext0 ?_) | (with_reducible refine a_ext1 ?_) | (with_reducible refine a_ext2 ?_) | (with_reducible refine x_len ?_) | (with_reducible refine x_lens ?_) | (with_reducible refine x_eqb ?_) | (with_reducible refine x_neb ?_) | (with_reducible refine x_nilP ?_) | (with_reducible refine x_nilPn ?_) | (with_reducible refine x_nilF ?_) | (with_reducible refine x_nilFF ?_) | (with_reducible refine w_eqlL ?_) | (with_reducible refine w_neqL ?_) | (with_reducible refine s_eqlL ?_) | (with_reducible refine ifnt ?_) | (with_reducible refine ifnf ?_) | (with_reducible refine x_eqB ?_) | (with_reducible refine x_neB ?_) | (with_reducible refine x_lssL ?_) | (with_reducible refine x_gtrL ?_) | (with_reducible refine x_geqL ?_) | (with_reducible refine s_neqL ?_) | (with_reducible refine St.load h ?_) | (with_reducible refine St.loadS h ?_) | (with_reducible refine a_fld0 ?_) | (with_reducible refine St.store h fun W h => ?_) | (with_reducible refine St.storeS h fun W h => ?_) | (with_reducible refine St.alloc h fun b W h => ?_) | (with_reducible refine St.allocS h fun b W h => ?_) | (with_reducible refine a_nil ?_) | (with_reducible refine ss_load ?_) | (with_reducible refine ss_loadS ?_) | (with_reducible refine ss_eqb ?_)))
          refine ifd (fun hat => ?_) fun hat => ?_
          · (repeat (first | (with_reducible refine ift ?_) | (with_reducible refine iff' ?_) | (with_reducible refine a_lss ?_) | (with_reducible refine a_leq ?_) | (with_reducible refine a_gtr ?_) | (with_reducible refine a_geq ?_) | (with_reducible refine w_eql ?_) | (with_reducible refine w_neq ?_) | (with_reducible refine s_eql ?_) | (with_reducible refine s_neq ?_) | ((with_reducible refine a_add64 ?h0 ?h1 ?_); (case h0 => omega); (case h1 => omega);  skip) | ((with_reducible refine a_sub64 ?h0 ?h1 ?_); (case h0 => omega); (case h1 => omega);  skip) | ((with_reducible refine a_mul64 ?h0 ?h1 ?_); (case h0 => omega); (case h1 => omega);  skip) | (with_reducible refine a_notd ?_) | (with_reducible refine a_not ?_) | (with_reducible refine a_ext0 ?_) | (with_reducible refine a_ext1 ?_) | (with_reducible refine a_ext2 ?_) | (with_reducible refine x_len ?_) | (with_reducible refine x_lens ?_) | (with_reducible refine x_eqb ?_) | (with_reducible refine x_neb ?_) | (with_reducible refine x_nilP ?_) | (with_reducible refine x_nilPn ?_) | (with_reducible refine x_nilF ?_) | (with_reducible refine x_nilFF ?_) | (with_reducible refine w_eqlL ?_) | (with_reducible refine w_neqL ?_) | (with_reducible refine s_eqlL ?_) | (with_reducible refine ifnt ?_) | (with_reducible refine ifnf ?_) | (with_reducible refine x_eqB ?_) | (with_reducible refine x_neB ?_) | (with_reducible refine x_lssL ?_) | (with_reducible refine x_gtrL ?_) | (with_reducible refine x_geqL ?_) | (with_reducible refine s_neqL ?_) | (with_reducible refine St.load h ?_) | (with_reducible refine St.loadS h ?_) | (with_reducible refine a_fld0 ?_) | (with_reducible refine St.store h fun W h => ?_) | (with_reducible refine St.storeS h fun W h => ?_) | (with_reducible refine St.alloc h fun b W h => ?_) | (with_reducible refine St.allocS h fun b W h => ?_) | (with_reducible refine a_nil ?_) | (with_reducible refine ss_load ?_) | (with_reducible refine ss_loadS ?_) | (with_reducible refine ss_eqb ?_)))
            refine VsI.put_spec (o := o) hV hbd (by omega) fun W4 h4 => ⟨rfl, _, _, putR_srt hs low o, putR_bd hbd low o, ?_, h4.to⟩
            rw [putR_scan hs hat, hps]
          · exact ⟨rfl, same⟩
        · exact ⟨rfl, same⟩
    · refine jni (fun vs W' => vs = [vb, .int .i64 t, v, was, nV .i64 j] ∧ Q W') (by rintro vs W' _ ⟨rfl, h⟩; exact app5 ⟨rfl, h⟩) ?_
      (repeat (first | (with_reducible refine ift ?_) | (with_reducible refine iff' ?_) | (with_reducible refine a_lss ?_) | (with_reducible refine a_leq ?_) | (with_reducible refine a_gtr ?_) | (with_reducible refine a_geq ?_) | (with_reducible refine w_eql ?_) | (with_reducible refine w_neq ?_) | (with_reducible refine s_eql ?_) | (with_reducible refine s_neq ?_) | ((with_reducible refine a_add64 ?h0 ?h1 ?_); (case h0 => omega); (case h1 => omega);  skip) | ((with_reducible refine a_sub64 ?h0 ?h1 ?_); (case h0 => omega); (case h1 => omega);  skip) | ((with_reducible refine a_mul64 ?h0 ?h1 ?_); (case h0 => omega); (case h1 => omega);  skip) | (with_reducible refine a_notd ?_) | (with_reducible refine a_not ?_) | (with_reducible refine a_ext0 ?_) | (with_reducible refine a_ext1 ?_) | (with_reducible refine a_ext2 ?_) | (with_reducible refine x_len ?_) | (with_reducible refine x_lens ?_) | (with_reducible refine x_eqb ?_) | (with_reducible refine x_neb ?_) | (with_reducible refine x_nilP ?_) | (with_reducible refine x_nilPn ?_) | (with_reducible refine x_nilF ?_) | (with_reducible refine x_nilFF ?_) | (with_reducible refine w_eqlL ?_) | (with_reducible refine w_neqL ?_) | (with_reducible refine s_eqlL ?_) | (with_reducible refine ifnt ?_) | (with_reducible refine ifnf ?_) | (with_reducible refine x_eqB ?_) | (with_reducible refine x_neB ?_) | (with_reducible refine x_lssL ?_) | (with_reducible refine x_gtrL ?_) | (with_reducible refine x_geqL ?_) | (with_reducible refine s_neqL ?_) | (with_reducible refine St.load h ?_) | (with_reducible refine St.loadS h ?_) | (with_reducible refine a_fld0 ?_) | (with_reducible refine St.store h fun W h => ?_) | (with_reducible refine St.storeS h fun W h => ?_) | (with_reducible refine St.alloc h fun b W h => ?_) | (with_reducible refine St.allocS h fun b W h => ?_) | (with_reducible refine a_nil ?_) | (with_reducible refine ss_load ?_) | (with_reducible refine ss_loadS ?_) | (with_reducible refine ss_eqb ?_)))
      refine ifd (fun hk2 => ?_) fun hk2 => ?_
      · (repeat (first | (with_reducible refine ift ?_) | (with_reducible refine iff' ?_) | (with_reducible refine a_lss ?_) | (with_reducible refine a_leq ?_) | (with_reducible refine a_gtr ?_) | (with_reducible refine a_geq ?_) | (with_reducible refine w_eql ?_) | (with_reducible refine w_neq ?_) | (with_reducible refine s_eql ?_) | (with_reducible refine s_neq ?_) | ((with_reducible refine a_add64 ?h0 ?h1 ?_); (case h0 => omega); (case h1 => omega);  skip) | ((with_reducible refine a_sub64 ?h0 ?h1 ?_); (case h0 => omega); (case h1 => omega);  skip) | ((with_reducible refine a_mul64 ?h0 ?h1 ?_); (case h0 => omega); (case h1 => omega);  skip) | (with_reducible refine a_notd ?_) | (with_reducible refine a_not ?_) | (with_reducible refine a_ext0 ?_) | (with_reducible refine a_ext1 ?_) | (with_reducible refine a_ext2 ?_) | (with_reducible refine x_len ?_) | (with_reducible refine x_lens ?_) | (with_reducible refine x_eqb ?_) | (with_reducible refine x_neb ?_) | (with_reducible refine x_nilP ?_) | (with_reducible refine x_nilPn ?_) | (with_reducible refine x_nilF ?_) | (with_reducible refine x_nilFF ?_) | (with_reducible refine w_eqlL ?_) | (with_reducible refine w_neqL ?_) | (with_reducible refine s_eqlL ?_) | (with_reducible refine ifnt ?_) | (with_reducible refine ifnf ?_) | (with_reducible refine x_eqB ?_) | (with_reducible refine x_neB ?_) | (with_reducible refine x_lssL ?_) | (with_reducible refine x_gtrL ?_) | (with_reducible refine x_geqL ?_) | (with_reducible refine s_neqL ?_) | (with_reducible refine St.load h ?_) | (with_reducible refine St.loadS h ?_) | (with_reducible refine a_fld0 ?_) | (with_reducible refine St.store h fun W h => ?_) | (with_reducible refine St.storeS h fun W h => ?_) | (with_reducible refine St.alloc h fun b W h => ?_) | (with_reducible refine St.allocS h fun b W h => ?_) | (with_reducible refine a_nil ?_) | (with_reducible refine ss_load ?_) | (with_reducible refine ss_loadS ?_) | (with_reducible refine ss_eqb ?_)))
        refine ifd (fun hat => ?_) fun hat => ?_
        · (repeat (first | (with_reducible refine ift ?_) | (with_reducible refine iff' ?_) | (with_reducible refine a_lss ?_) | (with_reducible refine a_leq ?_) | (with_reducible refine a_gtr ?_) | (with_reducible refine a_geq ?_) | (with_reducible refine w_eql ?_) | (with_reducible refine w_neq ?_) | (with_reducible refine s_eql ?_) | (with_reducible refine s_neq ?_) | ((with_reducible refine a_add64 ?h0 ?h1 ?_); (case h0 => omega); (case h1 => omega);  skip) | ((with_reducible refine a_sub64 ?h0 ?h1 ?_); (case h0 => omega); (case h1 => omega);  skip) | ((with_reducible refine a_mul64 ?h0 ?h1 ?_); (case h0 => omega); (case h1 => omega);  skip) | (with_reducible refine a_notd ?_) | (with_reducible refine a_not ?_) | (with_reducible refine a_ext0 ?_) | (with_reducible refine a_ext1 ?_) | (with_reducible refine a_ext2 ?_) | (with_reducible refine x_len ?_) | (with_reducible refine x_lens ?_) | (with_reducible refine x_eqb ?_) | (with_reducible refine x_neb ?_) | (with_reducible refine x_nilP ?_) | (with_reducible refine x_nilPn ?_) | (with_reducible refine x_nilF ?_) | (with_reducible refine x_nilFF ?_) | (with_reducible refine w_eqlL ?_) | (with_reducible refine w_neqL ?_) | (with_reducible refine s_eqlL ?_) | (with_reducible refine ifnt ?_) | (with_reducible refine ifnf ?_) | (with_reducible refine x_eqB ?_) | (with_reducible refine x_neB ?_) | (with_reducible refine x_lssL ?_) | (with_reducible refine x_gtrL ?_) | (with_reducible refine x_geqL ?_) | (with_reducible refine s_neqL ?_) | (with_reducible refine St.load h ?_) | (with_reducible refine St.loadS h ?_) | (with_reducible refine a_fld0 ?_) | (with_reducible refine St.store h fun W h => ?_) | (with_reducible refine St.storeS h fun W h => ?_) | (with_reducible refine St.alloc h fun b W h => ?_) | (with_reducible refine St.allocS h fun b W h => ?_) | (with_reducible refine a_nil ?_) | (with_reducible refine ss_load ?_) | (with_reducible refine ss_loadS ?_) | (with_reducible refine ss_eqb ?_)))
          refine VsI.put_spec (o := o) hV hbd (by omega) fun W4 h4 => ⟨rfl, _, _, putR_srt hs low o, putR_bd hbd low o, ?_, h4.to⟩
          rw [putR_scan hs hat, hps]
        · exact ⟨rfl, same⟩
      · exact ⟨rfl, same⟩
  -- what is to be seen now
  replace hbd : Bd 600 rows := hbd.mono (by omega)
  refine h.scan_spec hbd (by omega) fun now W6 on h => ?_
  rw [tk rows hbd, hps] at h
  have hpl : ps.length ≤ 600 := by rw [← hps]; have := scanR_len (rows := rows) [] [] t; have := hbd.1; omega
  refine pairsEq_spec (h.sl (v' := now)) (h.sl (v' := was)) rfl rfl (by omega) fun W7 hb7 => ?_
  replace h := h.ext hb7
  rw [decide_eq_true rfl]
  refine a_not (iff' ?_)
  refine lpx (α := Nat) (fun i => [nV .i64 i]) (fun i W' => i ≤ ps.length ∧ VsI Wz v rows low [Ky now (Ow 50 2 ps.length (pcells ps)), Ky was (Ow 50 2 ps.length (pcells ps))] W') (fun i => ps.length - i) 0 (fun _ => rfl) rfl ⟨Nat.zero_le _, h⟩ ?_
  clear h
  rintro next3 q W8 hnext3 ⟨hq, h⟩
  refine app1 ?_
  refine x_lenS (h.sl (v' := now)) ?_
  refine a_lss (ifd (fun hc3 => ?_) fun hc3 => ?_)
  · obtain ⟨p, hp⟩ : ∃ d, ps[q]? = some d := ⟨_, List.getElem?_eq_getElem (by omega)⟩
    have gp := pcells_get hp
    refine x_fld (h.sl (v' := now)) (by omega) (by decide) gp.1 ?_
    have ht := scanR_told hs (p := p) (by rw [hps]; exact List.mem_of_getElem? hp)
    refine h.get_spec (key := p.1) hbd (by omega) fun W9 h => ?_
    rw [ht]
    refine a_ext0 (a_ext1 ?_)
    refine jni (fun vs W' => vs = [.int .i64 t, v, now, nV .i64 q] ∧ VsI Wz v rows low [Ky now (Ow 50 2 ps.length (pcells ps)), Ky was (Ow 50 2 ps.length (pcells ps))] W') ?_ ?_
    · rintro vs W6 _ ⟨rfl, h4⟩
      refine app4 ?_
      refine a_add64 (by omega) (by omega) ⟨rfl, rfl, rfl, ?_⟩
      rw [show ((q : Int) + 1) = ((q + 1 : Nat) : Int) by push_cast; rfl]
      exact hnext3 (q + 1) W6 (by omega) ⟨by omega, h4⟩
    replace h := h.ext (Below.refl _ _).drew
    refine ⟨fun W' => W' = W9.drew, rfl, ?_⟩
    refine a_not (iff' ?_)
    refine x_sfld (h.sl (v' := now)) (fun _ e => by subst e; exact h.sl (v' := now)) (by omega) (by decide) gp.2 ?_
    refine s_neqL (ifd (fun hne => absurd rfl hne) fun _ => ?_)
    refine a_gtr (ifd (fun hq0 => ?_) fun _ => ⟨rfl, h⟩)
    refine x_sfld (h.sl (v' := now)) (fun _ e => by subst e; exact h.sl (v' := now)) (by omega) (by decide) gp.1 ?_
    refine a_sub64 (by omega) (by omega) ?_
    rw [show ((q : Int) - 1) = ((q - 1 : Nat) : Int) by omega]
    obtain ⟨p', hp'⟩ : ∃ d, ps[q - 1]? = some d := ⟨_, List.getElem?_eq_getElem (by omega)⟩
    refine x_sfld (h.sl (v' := now)) (fun _ e => by subst e; exact h.sl (v' := now)) (by omega) (by decide) (pcells_get hp').1 ?_
    have hlt : OKey.lt p'.1 p.1 = true := by
      have hss := scanR_srt hs [] [] t
      rw [hps] at hss
      have e1 := List.getElem?_eq_some_iff.1 hp'
      have e2 := List.getElem?_eq_some_iff.1 hp
      have := List.pairwise_iff_getElem.1 hss (q - 1) q e1.1 e2.1 (by omega)
      rw [e1.2, e2.2] at this
      exact this
    have hno : (Op.bytesLess p.1 p'.1 || p.1 == p'.1) = false := by
      have h1 : Op.bytesLess p.1 p'.1 = false := OKey.asym hlt
      have h2 : p.1 ≠ p'.1 := fun e => by rw [e, OKey.irr] at hlt; cases hlt
      rw [h1]; simpa using h2
    refine x_leqL0 ?_
    rw [hno]
    exact iff' ⟨rfl, h⟩
  refine x_lenS (h.sl (v' := now)) (w_min ?_)
  refine ⟨fun _ => True, trivial, ?_⟩
  replace h := h.ext (Below.refl _ _).drew
  refine h.first_spec fun W9 h => ⟨trivial, ift ?_⟩
  rw [show min (3 : Int) (ps.length : Int) = ((min 3 ps.length : Nat) : Int) by omega]
  refine a_sliceH (SlT.el (P := Try.prog) (t := 41)) (h.sl (v' := now)) (by omega) (by omega) fun nv hnv => ?_
  obtain ⟨rs, hr, hz⟩ := h.z
  subst hr
  refine scan_specZ hz hbd (by omega) (St.start W9) fun f A W10 hI of h1 => ⟨trivial, ?_⟩
  refine vpairs_spec hI h1 (by rw [hps]; omega) fun v' W11 o h2 => ⟨trivial, ?_⟩
  rw [hps] at h2
  replace h := h.frame (h2.to (l' := [Ky v' (Ow 50 2 (ps.take (3 : Int).toNat).length (pcells (ps.take (3 : Int).toNat)))]))
  have e3 : (((min 3 ps.length : Nat) : Int).toNat) = min 3 ps.length := by omega
  rw [e3, ← pcells_take] at hnv
  have e4 : ps.take (min 3 ps.length) = ps.take (3 : Int).toNat := by
    show _ = ps.take 3
    rcases Nat.lt_or_ge ps.length 3 with hl | hl
    · rw [Nat.min_eq_right (by omega), List.take_length, List.take_of_length_le (by omega)]
    · rw [Nat.min_eq_left hl]
  rw [e4] at hnv
  refine pairsEq_spec (h.sl (v' := v')) (hnv.below h2.low) rfl (by rw [← e4, List.length_take]; omega) (by rw [List.length_take]; omega) fun W12 hb12 => ⟨trivial, ?_⟩
  rw [decide_eq_true rfl]
  exact k W12 (h.ext hb12).low'
end
end Go.Proofs.Ytffnabbchghokaa
