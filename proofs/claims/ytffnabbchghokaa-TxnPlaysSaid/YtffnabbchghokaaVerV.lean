/-
  VERSIONS: any calls, the document's store beside: VersPlays: the walk.
-/
import Derived.Test.YtffnabbchghokaaVerU
import Derived.Laws.Cover1
namespace Go.Proofs.Ytffnabbchghokaa
open Go Go.Ez Go.RowKit
set_option linter.unusedSimpArgs false
set_option linter.unusedVariables false

/-- a store, and the document's -/
def PlI (w0 : World) (v : Value) (ra : VRows Txt) (la : Int) (x : Value) (rb : VRows Txt) (lb : Int) (L : List As) (W : World) : Prop := ∃ kp rs, InX kp rs ∧ rwvs rs = rb ∧ VsI w0 v ra la (Ky x (Xs rs lb) :: Ky PoolK.c (PlX kp) :: L) W
section
variable {w0 W W' : World} {l R : List As} {ra rb rows : VRows Txt} {la lb low : Int} {v x : Value} {RR : Value → World → Prop} {L : List As}
theorem PlI.blw (h : PlI w0 v ra la x rb lb L W) : Below w0.heap.size w0 W := by
  obtain ⟨_, _, _, _, h⟩ := h
  exact h.low'
theorem PlI.ext (h : PlI w0 v ra la x rb lb L W) (hb : Below W.heap.size W W') : PlI w0 v ra la x rb lb L W' := by
  obtain ⟨kp, rs, h1, h2, h⟩ := h
  exact ⟨kp, rs, h1, h2, h.ext hb⟩
theorem PlI.z (h : PlI w0 v ra la x rb lb L W) : ∃ rs, rwvs rs = ra ∧ VsZvs rs la W v := by
  obtain ⟨kp, rs, h1, h2, h⟩ := h
  exact h.z
theorem PlI.xz (h : PlI w0 v ra la x rb lb L W) : ∃ rs, rwvs rs = rb ∧ XsZ rs lb W x := by
  obtain ⟨kp, rs, h1, h2, kp2, rs2, h3, h4, h⟩ := h
  exact ⟨rs, h2, freezeX h h1⟩
theorem PlI.frame {A : As} (h : PlI w0 v ra la x rb lb L W) (h' : St W G0 [A] W') : PlI w0 v ra la x rb lb (A :: L) W' := by
  obtain ⟨kp, rs, h1, h2, kp2, rs2, h3, h4, h⟩ := h
  have h5 : St w0 G0 ([] ++ A :: (Ky v (Vsvs rs2 la) :: Ky PoolK.a (Plvs kp2) :: Ky x (Xs rs lb) :: Ky PoolK.c (PlX kp) :: L)) W' := h.frame1 h'
  exact ⟨kp, rs, h1, h2, kp2, rs2, h3, h4, (St.behind (L := [Ky v (Vsvs rs2 la), Ky PoolK.a (Plvs kp2), Ky x (Xs rs lb), Ky PoolK.c (PlX kp)]) h5)⟩
theorem PlI.to {L' : List As} [i : Arr L L'] (h : PlI w0 v ra la x rb lb L W) : PlI w0 v ra la x rb lb L' W := by
  obtain ⟨kp, rs, h1, h2, kp2, rs2, h3, h4, h⟩ := h
  exact ⟨kp, rs, h1, h2, kp2, rs2, h3, h4, h.to⟩
theorem PlI.sl {v' : Value} {e : TypeId} {sz n : Nat} {cs : List Value} {L' : List As} [i : Has L v' (Ow e sz n cs) L'] (h : PlI w0 v ra la x rb lb L W) : Sl W sz v' n cs := by
  obtain ⟨kp, rs, h1, h2, h⟩ := h
  exact h.sl (v' := v')
theorem PlI.rc {b : Nat} {t : TypeId} {cs : List Value} {L' : List As} [i : Has L b (Ob (.cells cs.toArray t (0, 0))) L'] (h : PlI w0 v ra la x rb lb L W) : Rec W b t cs := by
  obtain ⟨kp, rs, h1, h2, kp2, rs2, h3, h4, h⟩ := h
  exact h.rc
theorem PlI.prog {P : Prop} (h : PlI w0 v ra la x rb lb L W) (k : ∀ L', VsI w0 v ra la L' W → (∀ W' ra' la', VsI w0 v ra' la' L' W' → PlI w0 v ra' la' x rb lb L W') → P) : P := by
  obtain ⟨kp, rs, h1, h2, h⟩ := h
  exact k _ h fun W' ra' la' h => ⟨kp, rs, h1, h2, h⟩
theorem PlI.xput {n : Nat} {key val : Txt} {t : Int} (h : PlI w0 v ra la x rb lb L W) (hb : Bd n rb) (hn : n ≤ 500000) (k : ∀ W', PlI w0 v ra la x (addR rb lb key (t, val, false)).2 lb L W' → RR (.int .i64 (addR rb lb key (t, val, false)).1) W') :
    CallF Try.prog 34 #[x, .int .i64 t, strV key, strV val] W RR := by
  obtain ⟨kp, rs, h1, h2, kp2, rs2, h3, h4, h⟩ := h
  subst h2
  exact xput_spec h h1 hb hn fun kp' rs' W' a1 a2 h => k W' ⟨kp', rs', a1, a2, kp2, rs2, h3, h4, h.to⟩
theorem PlI.xkill {n : Nat} {key : Txt} {t : Int} (h : PlI w0 v ra la x rb lb L W) (hb : Bd n rb) (hn : n ≤ 500000) (k : ∀ W', PlI w0 v ra la x (addR rb lb key (t, [], true)).2 lb L W' → RR (.int .i64 (addR rb lb key (t, [], true)).1) W') :
    CallF Try.prog 35 #[x, .int .i64 t, strV key] W RR := by
  obtain ⟨kp, rs, h1, h2, kp2, rs2, h3, h4, h⟩ := h
  subst h2
  exact xkill_spec h h1 hb hn fun kp' rs' W' a1 a2 h => k W' ⟨kp', rs', a1, a2, kp2, rs2, h3, h4, h.to⟩
theorem PlI.xprune {n : Nat} {t : Int} (h : PlI w0 v ra la x rb lb L W) (hb : Bd n rb) (hn : n ≤ 500000) (hg : Gd rb) (k : ∀ W', PlI w0 v ra la x (pruneR rb lb t).2.1 (pruneR rb lb t).2.2 L W' → RR (nV .i64 (pruneR rb lb t).1) W') :
    CallF Try.prog 36 #[x, .int .i64 t] W RR := by
  obtain ⟨kp, rs, h1, h2, kp2, rs2, h3, h4, h⟩ := h
  subst h2
  exact xprune_spec h h1 hb hn hg fun rs' W' a1 a2 h => k W' ⟨kp, rs', a1, a2, kp2, rs2, h3, h4, h.to⟩
theorem PlI.srt (h : PlI w0 v ra la x rb lb L W) : Srt ra := by
  obtain ⟨rs, hr, hz⟩ := h.z
  rw [← hr]
  exact (mapV_srt _).2 hz.srt
/-- a copy goes on; the other one is spoilt -/
theorem PlI.copy {n : Nat} (h : PlI w0 v ra la x rb lb L W) (hb : Bd n ra) (hn : n ≤ 400000) (k : ∀ b kp rs kpx rsx W', Invs kp rs → rwvs rs = ra → InX kpx rsx → rwvs rsx = rb →
      St w0 G0 (Ky v (Vsvs rs la) :: Ky PoolK.a (Plvs kp) :: Ky (.pointer (some ⟨b, 0, none⟩) : Value) (Vsvs rs la) :: Ky x (Xs rsx lb) :: Ky PoolK.c (PlX kpx) :: L) W' → RR (.pointer (some ⟨b, 0, none⟩)) W') :
    CallF Try.prog 37 #[v] W RR := by
  obtain ⟨kp, rs, h1, h2, kp2, rs2, h3, h4, h⟩ := h
  have hl : rs2.length ≤ n := by rw [← rwLenvs, h4]; exact hb.1
  refine vcopyvs_spec (v := v) h (by omega) fun c W' oc h => ?_
  obtain ⟨b, mv, hc, _⟩ := h.openVvs (v := c)
  subst hc
  exact k b kp2 rs2 kp rs W' h3 h4 h1 h2 h.to
theorem s_max3 {S : World → Prop} {K : Value → Prop} {ts : Array TypeId} {t : TypeId} {k k' k'' : IntKind} {a b c : Int} (h : K (.int k (max (max a b) c))) : RunS Try.prog S (Builtin.max_ ts t #[.int k a, .int k' b, .int k'' c]) K :=
  .of (v := .int k (max (max a b) c)) (fun w _ => by
    rw [run_max_int3]
    congr 2
    omega) h
end

section
variable {RR : Value → World → Prop}
set_option maxHeartbeats 1000000 in
/-- hbllaw11.VersPlays -/
theorem plays_spec {Wz : World} {a : List VOp} {av : Value} {na : Nat} (ha : Sl Wz 5 av na (vopsC a)) (hna : na = a.length) (k : ∀ W', Below Wz.heap.size Wz W' → RR (.bool true) W') :
    CallF Try.prog 7 #[av] Wz RR := by
  refine sh7_calls ?_
  unfold sh7
  subst hna
  refine vfirst_spec fun W1 hb1 => ?_
  refine a_not (iff' ?_)
  refine VsI.new_spec ((St.start Wz).ext hb1) fun bv W2 h => ?_
  obtain ⟨kp, rs, hk, hr, h⟩ := h
  have hrs : rs = [] := by
    have := congrArg List.length hr
    rw [rwLenvs] at this
    exact List.eq_nil_of_length_eq_zero this
  subst hrs
  refine x_bld (cells := [.slice none 0 0, .int .i64 0].toArray) rfl ?_
  refine h.boxS (cs := [.slice none 0 0, .int .i64 0]) fun bx W h => ?_
  have h1 : St Wz G0 (Ky (.slice none 0 0 : Value) (Ow 130 2 0 []) :: _) W := h.nilOw
  have h2 := shutX (b := bx) (sl := .slice none 0 0) (rs := []) h1 List.Pairwise.nil rfl rfl
  have h3 := h2.kqNil PoolK.c verCvs 128 3
  have h0 : PlI Wz (.pointer (some ⟨bv, 0, none⟩)) [] 0 (.pointer (some ⟨bx, 0, none⟩)) [] 0 [] W := ⟨[], [], (fun r hr => by cases hr), rfl, kp, [], hk, rfl, h3.to⟩
  clear h h1 h2 h3
  refine x_nilP (iff' ?_)
  refine vfew_spec (ha.below h0.blw) rfl fun fa hfa => ?_
  refine a_not (ifnb (fun hf => ?_) fun hf => ?_)
  · refine x_nilPn (ift ?_)
    refine vfirst_spec fun W3 hb3 => k W3 (h0.ext hb3).blw
  replace hfa := hfa hf
  generalize hgx : (.pointer (some ⟨bx, 0, none⟩) : Value) = x at h0 ⊢
  refine lpx (α := Value × Nat) (fun p => [p.1, nV .i64 p.2]) (fun p W' => p.2 ≤ a.length ∧ ∃ rows low, Bd p.2 rows ∧ Gd rows ∧ (0 ≤ low ∧ low ≤ 1099511627776) ∧ PlI Wz p.1 rows low x rows low [] W') (fun p => a.length - p.2) (.pointer (some ⟨bv, 0, none⟩), 0) (fun _ => rfl) rfl
    ⟨Nat.zero_le _, [], 0, ⟨Nat.le_refl _, fun r hr => by cases hr⟩, (fun r hr => by cases hr), ⟨by decide, by decide⟩, h0⟩ ?_
  clear h0
  rintro next ⟨v, i⟩ W3 hnext ⟨hi, rows, low, hbd, hgd, hlow, h⟩
  simp only at hi hbd h ⊢
  refine app2 ?_
  have ha3 := ha.below h.blw
  refine x_lenS ha3 ?_
  refine a_lss (ifd (fun hc => ?_) fun hc => ?_)
  · obtain ⟨o, ho⟩ : ∃ d, a[i]? = some d := ⟨_, List.getElem?_eq_getElem (by omega)⟩
    refine x_idx ha3 (by omega) fun bb oo hcell => ?_
    refine x_lds (cs := VOp.cells o) rfl (fun j u hu => hcell j u (List.getElem?_eq_some_iff.1 hu).1 ((vops_get ho (List.getElem?_eq_some_iff.1 hu).1).trans hu)) ?_
    refine (St.start W3).allocS fun bo W h' => ?_
    refine h'.storeS (cs' := [.int .i64 o.kind, .int .i64 o.at_, strV o.key, strV o.v, strV o.hi]) fun W h' => ?_
    replace h := h.frame h'
    clear h'
    refine a_fld0 (w_ldR h.rc rfl ?_)
    -- behind the call
    refine jni (fun vs W' => ∃ v' rows low, vs = [av, v', x, nV .i64 i, .pointer (some ⟨bo, 0, none⟩), .bool true] ∧ Bd (i + 1) rows ∧ Gd rows ∧ (0 ≤ low ∧ low ≤ 1099511627776) ∧ PlI Wz v' rows low x rows low [Ky bo (Ob (.cells [.int .i64 o.kind, .int .i64 o.at_, strV o.key, strV o.v, strV o.hi].toArray 40 (0, 0)))] W') ?_ ?_
    · clear h hbd hgd hlow rows low
      rintro vs W4 _ ⟨v, rows, low, rfl, hbd, hgd, hlow, h⟩
      refine app6 ?_
      replace h := h.ext (Below.refl _ _).drew
      refine ⟨fun w => Rec w bo 40 [.int .i64 o.kind, .int .i64 o.at_, strV o.key, strV o.v, strV o.hi], h.rc, ?_⟩
      refine a_not (iff' ?_)
      have hn : i + 1 ≤ 400000 := by omega
      obtain ⟨rs, hr, hz⟩ := h.z
      refine vcountvs_spec hz (by rw [hr]; exact hbd) (by omega) fun W5 hb => ?_
      replace h := h.ext hb
      refine ⟨h.rc, ?_⟩
      obtain ⟨xs, hxr, hxz⟩ := h.xz
      refine xcount_spec hxz (by rw [hxr]; exact hbd) (by omega) ⟨h.rc, ?_⟩
      rw [hr, hxr]
      refine s_neq (ifd_neg (fun h => h rfl) ?_)
      obtain ⟨rs, hr, hz⟩ := h.z
      refine vlowvs_spec hz ⟨h.rc, ?_⟩
      refine xlow_spec hxz ⟨h.rc, ?_⟩
      refine s_neq (ifd_neg (fun h => h rfl) ?_)
      refine a_fld0 (s_ld (t := 40) (cs := [.int .i64 o.kind, .int .i64 o.at_, strV o.key, strV o.v, strV o.hi]) (fun w hw => hw) rfl ?_)
      refine a_fld0 (s_ld (t := 40) (cs := [.int .i64 o.kind, .int .i64 o.at_, strV o.key, strV o.v, strV o.hi]) (fun w hw => hw) rfl ?_)
      refine lastvs_spec (key := o.key) hz (by rw [hr]; exact hbd) (by omega) fun W6 hb => ?_
      replace h := h.ext hb
      refine ⟨h.rc, ?_⟩
      obtain ⟨xs, hxr, hxz⟩ := h.xz
      refine xlast_spec (key := o.key) hxz (by rw [hxr]; exact hbd) (by omega) fun W7 hb => ?_
      replace h := h.ext hb
      refine ⟨h.rc, ?_⟩
      rw [hr, hxr]
      refine s_neq (ifd_neg (fun h => h rfl) ?_)
      refine a_fld0 (s_ld (t := 40) (cs := [.int .i64 o.kind, .int .i64 o.at_, strV o.key, strV o.v, strV o.hi]) (fun w hw => hw) rfl ?_)
      refine a_fld0 (s_ld (t := 40) (cs := [.int .i64 o.kind, .int .i64 o.at_, strV o.key, strV o.v, strV o.hi]) (fun w hw => hw) rfl ?_)
      obtain ⟨rs, hr, hz⟩ := h.z
      refine vchainvs_spec (key := o.key) hz (by rw [hr]; exact hbd) (by omega) fun c1 W8 o1 h' => ?_
      replace h := h.frame h'
      refine ⟨h.rc, ?_⟩
      obtain ⟨xs, hxr, hxz⟩ := h.xz
      refine xchain_spec (key := o.key) hxz (by rw [hxr]; exact hbd) (by omega) fun c2 W9 o2 h' => ?_
      replace h := h.frame h'
      refine ⟨h.rc, ?_⟩
      have hcl := hbd.chain o.key
      have s1 := h.sl (v' := c1)
      have s2 := h.sl (v' := c2)
      rw [hr] at s1
      rw [hxr] at s2
      refine chainEq_spec s1 s2 rfl rfl (by omega) fun W10 hb => ?_
      replace h := (h.ext hb).to (L' := [Ky bo (Ob (.cells [.int .i64 o.kind, .int .i64 o.at_, strV o.key, strV o.v, strV o.hi].toArray 40 (0, 0)))])
      refine ⟨h.rc, ?_⟩
      refine a_not (iff' ?_)
      refine a_fld0 (w_ldR h.rc rfl ?_)
      refine a_fld0 (w_ldR h.rc rfl ?_)
      obtain ⟨rs, hr, hz⟩ := h.z
      refine vgetvs_spec (key := o.key) (t := o.at_) hz (by rw [hr]; exact hbd) (by omega) fun W11 hb => ?_
      replace h := h.ext hb
      refine a_ext0 (a_ext1 ?_)
      refine a_fld0 (w_ldR h.rc rfl ?_)
      refine a_fld0 (w_ldR h.rc rfl ?_)
      obtain ⟨xs, hxr, hxz⟩ := h.xz
      refine xget_spec (key := o.key) (t := o.at_) hxz (by rw [hxr]; exact hbd) (by omega) (by rw [hxr]; exact hgd) fun W12 hb => ?_
      replace h := h.ext hb
      refine a_ext0 (a_ext1 ?_)
      rw [hr, hxr]
      replace h := h.ext (Below.refl _ _).drew
      refine ⟨fun w => Rec w bo 40 [.int .i64 o.kind, .int .i64 o.at_, strV o.key, strV o.v, strV o.hi], h.rc, ?_⟩
      refine s_neqL (ifd_neg (fun h => h rfl) ?_)
      refine s_neb ?_
      rw [show (!((toldC (chainR rows o.key) o.at_).isSome == (toldC (chainR rows o.key) o.at_).isSome)) = false by simp]
      refine iff' ?_
      refine a_fld0 (s_ld (t := 40) (cs := [.int .i64 o.kind, .int .i64 o.at_, strV o.key, strV o.v, strV o.hi]) (fun w hw => hw) rfl ?_)
      refine a_fld0 (s_ld (t := 40) (cs := [.int .i64 o.kind, .int .i64 o.at_, strV o.key, strV o.v, strV o.hi]) (fun w hw => hw) rfl ?_)
      refine a_fld0 (s_ld (t := 40) (cs := [.int .i64 o.kind, .int .i64 o.at_, strV o.key, strV o.v, strV o.hi]) (fun w hw => hw) rfl ?_)
      refine a_fld0 (s_ld (t := 40) (cs := [.int .i64 o.kind, .int .i64 o.at_, strV o.key, strV o.v, strV o.hi]) (fun w hw => hw) rfl ?_)
      refine a_fld0 (s_ld (t := 40) (cs := [.int .i64 o.kind, .int .i64 o.at_, strV o.key, strV o.v, strV o.hi]) (fun w hw => hw) rfl ?_)
      refine a_fld0 (s_ld (t := 40) (cs := [.int .i64 o.kind, .int .i64 o.at_, strV o.key, strV o.v, strV o.hi]) (fun w hw => hw) rfl ?_)
      have tk : ∀ lo hi : Txt, (scanR rows lo hi o.at_).take (1048576 : Int).toNat = scanR rows lo hi o.at_ := fun lo hi => List.take_of_length_le (by
        have h1 := scanR_len (rows := rows) lo hi o.at_
        have h2 := hbd.1
        show _ ≤ 1048576
        omega)
      obtain ⟨rs, hr, hz⟩ := h.z
      refine scan_specZ (lo := o.key) (hi := o.hi) (t := o.at_) hz (by rw [hr]; exact hbd) (by omega) (St.start _) fun f A W13 hI of h1 => ⟨(h.ext h1.low).rc, ?_⟩
      have hsl := scanR_len (rows := rwvs rs) o.key o.hi o.at_
      rw [hr] at hI hsl
      refine vpairs_spec hI h1 (by have := hbd.1; omega) fun p1 W14 _ h2 => ?_
      rw [tk] at h2
      replace h := h.frame (h2.to (l' := [Ky p1 (Ow 50 2 (scanR rows o.key o.hi o.at_).length (pcells (scanR rows o.key o.hi o.at_)))]))
      refine ⟨h.rc, ?_⟩
      obtain ⟨xs, hxr, hxz⟩ := h.xz
      refine xscan_spec (lo := o.key) (hi := o.hi) (t := o.at_) hxz (by rw [hxr]; exact hbd) (by omega) (by rw [hxr]; exact hgd) fun p2 W15 _ h' => ?_
      rw [hxr] at h'
      replace h := h.frame h'
      refine ⟨h.rc, ?_⟩
      refine pairsEq_spec (h.sl (v' := p1)) (h.sl (v' := p2)) rfl rfl (by have := hbd.1; omega) fun W16 hb => ?_
      replace h := (h.ext hb).to (L' := [Ky bo (Ob (.cells [.int .i64 o.kind, .int .i64 o.at_, strV o.key, strV o.v, strV o.hi].toArray 40 (0, 0)))])
      refine ⟨h.rc, ?_⟩
      rw [decide_eq_true rfl]
      refine a_not (iff' ?_)
      refine a_fld0 (s_ld (t := 40) (cs := [.int .i64 o.kind, .int .i64 o.at_, strV o.key, strV o.v, strV o.hi]) (fun w hw => hw) rfl ?_)
      refine a_fld0 (s_ld (t := 40) (cs := [.int .i64 o.kind, .int .i64 o.at_, strV o.key, strV o.v, strV o.hi]) (fun w hw => hw) rfl ?_)
      obtain ⟨rs, hr, hz⟩ := h.z
      refine scan_specZ (lo := []) (hi := []) (t := o.at_) hz (by rw [hr]; exact hbd) (by omega) (St.start _) fun f A W13 hI of h1 => ⟨(h.ext h1.low).rc, ?_⟩
      have hsl := scanR_len (rows := rwvs rs) [] [] o.at_
      rw [hr] at hI hsl
      refine vpairs_spec hI h1 (by have := hbd.1; omega) fun p1 W14 _ h2 => ?_
      rw [tk] at h2
      replace h := h.frame (h2.to (l' := [Ky p1 (Ow 50 2 (scanR rows [] [] o.at_).length (pcells (scanR rows [] [] o.at_)))]))
      refine ⟨h.rc, ?_⟩
      obtain ⟨xs, hxr, hxz⟩ := h.xz
      refine xscan_spec (lo := []) (hi := []) (t := o.at_) hxz (by rw [hxr]; exact hbd) (by omega) (by rw [hxr]; exact hgd) fun p2 W15 _ h' => ?_
      rw [hxr] at h'
      replace h := h.frame h'
      refine ⟨h.rc, ?_⟩
      refine pairsEq_spec (h.sl (v' := p1)) (h.sl (v' := p2)) rfl rfl (by have := hbd.1; omega) fun W16 hb => ?_
      replace h := h.ext hb
      refine ⟨h.rc, ?_⟩
      rw [decide_eq_true rfl]
      refine a_not (iff' ?_)
      refine a_add64 (by omega) (by omega) ⟨rfl, rfl, ?_⟩
      rw [show ((i : Int) + 1) = ((i + 1 : Nat) : Int) by push_cast; rfl]
      exact hnext (v, i + 1) _ (by show a.length - (i + 1) < a.length - i; omega) ⟨by show i + 1 ≤ _; omega, rows, low, hbd, hgd, hlow, h.to⟩
    · refine w_eql (ifd (fun _ => ?_) fun _ => ?_)
      · replace h := h.ext (Below.refl _ _).drew
        refine ⟨fun w => Rec w bo 40 [.int .i64 o.kind, .int .i64 o.at_, strV o.key, strV o.v, strV o.hi], h.rc, ?_⟩
        refine a_fld0 (s_ld (t := 40) (cs := [.int .i64 o.kind, .int .i64 o.at_, strV o.key, strV o.v, strV o.hi]) (fun w hw => hw) rfl ?_)
        refine a_fld0 (s_ld (t := 40) (cs := [.int .i64 o.kind, .int .i64 o.at_, strV o.key, strV o.v, strV o.hi]) (fun w hw => hw) rfl ?_)
        refine a_fld0 (s_ld (t := 40) (cs := [.int .i64 o.kind, .int .i64 o.at_, strV o.key, strV o.v, strV o.hi]) (fun w hw => hw) rfl ?_)
        refine a_fld0 (s_ld (t := 40) (cs := [.int .i64 o.kind, .int .i64 o.at_, strV o.key, strV o.v, strV o.hi]) (fun w hw => hw) rfl ?_)
        refine a_fld0 (s_ld (t := 40) (cs := [.int .i64 o.kind, .int .i64 o.at_, strV o.key, strV o.v, strV o.hi]) (fun w hw => hw) rfl ?_)
        refine a_fld0 (s_ld (t := 40) (cs := [.int .i64 o.kind, .int .i64 o.at_, strV o.key, strV o.v, strV o.hi]) (fun w hw => hw) rfl ?_)
        refine h.prog fun L' hV back => hV.add_spec (key := o.key) (val := o.v) hbd (by omega) fun W5 hV => ?_
        replace h := back _ _ _ hV
        refine ⟨h.rc, ?_⟩
        refine h.xput (key := o.key) (val := o.v) hbd (by omega) fun W6 h => ⟨h.rc, ?_⟩
        refine s_eql ?_
        rw [decide_eq_true rfl]
        exact ⟨v, _, low, rfl, hbd.add _ _ _, hgd.add (fun h => by cases h), hlow, h⟩
      refine jni (fun vs W' => ∃ v' rows low, vs = [av, v', x, nV .i64 i, .pointer (some ⟨bo, 0, none⟩), .bool true] ∧ Bd (i + 1) rows ∧ Gd rows ∧ (0 ≤ low ∧ low ≤ 1099511627776) ∧ PlI Wz v' rows low x rows low [Ky bo (Ob (.cells [.int .i64 o.kind, .int .i64 o.at_, strV o.key, strV o.v, strV o.hi].toArray 40 (0, 0)))] W') (by rintro vs W' _ ⟨v', rows, low, rfl, hrest⟩; exact app6 ⟨v', rows, low, rfl, hrest⟩) ?_
      refine w_eql (ifd (fun _ => ?_) fun _ => ?_)
      · replace h := h.ext (Below.refl _ _).drew
        refine ⟨fun w => Rec w bo 40 [.int .i64 o.kind, .int .i64 o.at_, strV o.key, strV o.v, strV o.hi], h.rc, ?_⟩
        refine a_fld0 (s_ld (t := 40) (cs := [.int .i64 o.kind, .int .i64 o.at_, strV o.key, strV o.v, strV o.hi]) (fun w hw => hw) rfl ?_)
        refine a_fld0 (s_ld (t := 40) (cs := [.int .i64 o.kind, .int .i64 o.at_, strV o.key, strV o.v, strV o.hi]) (fun w hw => hw) rfl ?_)
        refine a_fld0 (s_ld (t := 40) (cs := [.int .i64 o.kind, .int .i64 o.at_, strV o.key, strV o.v, strV o.hi]) (fun w hw => hw) rfl ?_)
        refine a_fld0 (s_ld (t := 40) (cs := [.int .i64 o.kind, .int .i64 o.at_, strV o.key, strV o.v, strV o.hi]) (fun w hw => hw) rfl ?_)
        refine h.prog fun L' hV back => hV.kill_spec (key := o.key) hbd (by omega) fun W5 hV => ?_
        replace h := back _ _ _ hV
        refine ⟨h.rc, ?_⟩
        refine h.xkill (key := o.key) hbd (by omega) fun W6 h => ⟨h.rc, ?_⟩
        refine s_eql ?_
        rw [decide_eq_true rfl]
        exact ⟨v, _, low, rfl, hbd.add _ _ _, hgd.add (fun _ => rfl), hlow, h⟩
      refine jni (fun vs W' => ∃ v' rows low, vs = [av, v', x, nV .i64 i, .pointer (some ⟨bo, 0, none⟩), .bool true] ∧ Bd (i + 1) rows ∧ Gd rows ∧ (0 ≤ low ∧ low ≤ 1099511627776) ∧ PlI Wz v' rows low x rows low [Ky bo (Ob (.cells [.int .i64 o.kind, .int .i64 o.at_, strV o.key, strV o.v, strV o.hi].toArray 40 (0, 0)))] W') (by rintro vs W' _ ⟨v', rows, low, rfl, hrest⟩; exact app6 ⟨v', rows, low, rfl, hrest⟩) ?_
      refine w_eql (ifd (fun _ => ?_) fun _ => ?_)
      · replace h := h.ext (Below.refl _ _).drew
        refine ⟨fun w => Rec w bo 40 [.int .i64 o.kind, .int .i64 o.at_, strV o.key, strV o.v, strV o.hi], h.rc, ?_⟩
        refine a_fld0 (s_ld (t := 40) (cs := [.int .i64 o.kind, .int .i64 o.at_, strV o.key, strV o.v, strV o.hi]) (fun w hw => hw) rfl ?_)
        refine a_fld0 (s_ld (t := 40) (cs := [.int .i64 o.kind, .int .i64 o.at_, strV o.key, strV o.v, strV o.hi]) (fun w hw => hw) rfl ?_)
        refine h.prog fun L' hV back => hV.prune_spec hbd (by omega) fun W5 hV => ?_
        replace h := back _ _ _ hV
        refine ⟨h.rc, ?_⟩
        refine h.xprune hbd (by omega) hgd fun W6 h => ⟨h.rc, ?_⟩
        refine s_eql ?_
        rw [decide_eq_true rfl]
        exact ⟨v, _, _, rfl, (pruneR_bd hbd low o.at_).mono (by omega), hgd.pruneR low o.at_, pruneR_low hlow, h⟩
      refine jni (fun vs W' => ∃ v' rows low, vs = [av, v', x, nV .i64 i, .pointer (some ⟨bo, 0, none⟩), .bool true] ∧ Bd (i + 1) rows ∧ Gd rows ∧ (0 ≤ low ∧ low ≤ 1099511627776) ∧ PlI Wz v' rows low x rows low [Ky bo (Ob (.cells [.int .i64 o.kind, .int .i64 o.at_, strV o.key, strV o.v, strV o.hi].toArray 40 (0, 0)))] W') (by rintro vs W' _ ⟨v', rows, low, rfl, hrest⟩; exact app6 ⟨v', rows, low, rfl, hrest⟩) ?_
      refine w_eql (ifd (fun _ => ?_) fun _ => ?_)
      · refine h.copy hbd (by omega) fun b kp rs kpx rsx W5 hk hr hkx hrx h => ?_
        replace h := h.drew
        refine ⟨fun w => Rec w bo 40 [.int .i64 o.kind, .int .i64 o.at_, strV o.key, strV o.v, strV o.hi], h.rc, ?_⟩
        refine a_fld0 (s_ld (t := 40) (cs := [.int .i64 o.kind, .int .i64 o.at_, strV o.key, strV o.v, strV o.hi]) (fun w hw => hw) rfl ?_)
        refine a_fld0 (s_ld (t := 40) (cs := [.int .i64 o.kind, .int .i64 o.at_, strV o.key, strV o.v, strV o.hi]) (fun w hw => hw) rfl ?_)
        refine lastvs_spec (key := o.key) (h.freezeVvs (v := v) hk) (by rw [hr]; exact hbd) (by omega) fun W6 hb => ?_
        replace h := h.ext hb
        refine ⟨h.rc, fun w => Rec w bo 40 [.int .i64 o.kind, .int .i64 o.at_, strV o.key, strV o.v, strV o.hi], h.rc, fun w hw => hw, ?_⟩
        refine vlowvs_spec (h.freezeVvs (v := v) hk) ?_
        refine ⟨h.rc, fun w => Rec w bo 40 [.int .i64 o.kind, .int .i64 o.at_, strV o.key, strV o.v, strV o.hi], h.rc, fun w hw => hw, ?_⟩
        refine s_max3 ?_
        have hlast := (hgd.chain o.key).last
        rw [hr]
        refine a_add64 (by omega) (by omega) ?_
        refine vputvs_spec (v := v) (key := o.key) (val := [115, 112, 111, 105, 108, 116]) h hk (by rw [hr]; exact hbd) (by omega) fun kp1 rs1 W7 hk1 hsub1 e1 h => ?_
        have hbd1 : Bd (i + 1) (rwvs rs1) := by rw [e1, hr]; exact hbd.add _ _ _
        refine vprunevs_spec (v := v) h hk1 hbd1 (by omega) fun kp2 rs2 W8 hk2 hsub2 e2 h => ?_
        refine x_nilPn ?_
        exact ⟨_, rows, low, rfl, hbd.mono (by omega), hgd, hlow, kpx, rsx, hkx, hrx, kp2, rs, (fun r hr => hsub2 _ (hsub1 _ (hk r hr))), hr, h.to⟩
      · exact ⟨v, rows, low, rfl, hbd.mono (by omega), hgd, hlow, h⟩
  · refine vfirst_spec fun W13 hb13 => ?_
    exact k W13 (h.ext hb13).blw
end
end Go.Proofs.Ytffnabbchghokaa
