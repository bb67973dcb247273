/-
  VERSIONS: the document's store: found, read, told, counted: what each function answers.
-/
import Derived.Test.YtffnabbchghokaaVerT
import Derived.Test.YtffnabbchghokaaVerY
namespace Go.Proofs.Ytffnabbchghokaa
open Go Go.Ez Go.RowKit
set_option linter.unusedSimpArgs false
set_option linter.unusedVariables false

abbrev PlX (kp : List (Value × List (Ver Txt))) : PoolK → As := Kq verCvs 128 3 kp
/-- v points to the document's store of these rows -/
def Xs (rs : Rsvs) (low : Int) (v : Value) : As := As.ex fun p : Nat × Value => As.all (v = .pointer (some ⟨p.1, 0, none⟩) ∧ Srt rs) [Ky p.1 (Ob (.cells [p.2, .int .i64 low].toArray 63 (0, 0))), Ky p.2 (Ow 130 2 rs.length (pcells (mpvs rs)))]
/-- the chains are ends of what lies in the pool -/
def InX (kp : List (Value × List (Ver Txt))) (rs : Rsvs) : Prop := ∀ r ∈ rs, ∃ z ∈ kp, ∃ d, d ≤ z.2.length ∧ r.2.1.v = cutF z.1 3 d ∧ r.2.2 = z.2.drop d
/-- it, left alone -/
def XsZ (rs : Rsvs) (low : Int) (W : World) (v : Value) : Prop := ∃ b sl, v = .pointer (some ⟨b, 0, none⟩) ∧ Srt rs ∧ Rec W b 63 [sl, .int .i64 low] ∧ Sl W 2 sl rs.length (pcells (mpvs rs)) ∧ Chvs rs W
theorem cutF_add (v : Value) (sz d : Nat) : ∀ e, cutF (cutF v sz d) sz e = cutF v sz (d + e)
  | 0 => rfl
  | e + 1 => by
    show cut1 sz (cutF (cutF v sz d) sz e) = cut1 sz (cutF v sz (d + e))
    rw [cutF_add v sz d e]

section
variable {w0 W W' : World} {G : Nat → Prop} {l R R1 : List As} {rs : Rsvs} {low : Int} {v : Value} {RR : Value → World → Prop} {kp : List (Value × List (Ver Txt))} {key : Txt}
theorem InX.ch [i : Has l PoolK.c (PlX kp) R] (hk : InX kp rs) (h : St w0 G l W) : Chvs rs W := fun r hr => by
  obtain ⟨z, hz, d, hd, e1, e2⟩ := hk r hr
  have h1 := (h.kqGet PoolK.c (v := z.1) (xs := z.2) hz).cutF (i := d) hd
  rw [e1, e2, List.length_drop]
  rw [← rc_drop ver3vs] at h1
  exact h1
theorem openX [i : Has l v (Xs rs low) R] (h : St w0 G l W) : ∃ b sl, v = .pointer (some ⟨b, 0, none⟩) ∧ Srt rs ∧ Cel1 sl ∧ St w0 G (Ky b (Ob (.cells [sl, .int .i64 low].toArray 63 (0, 0))) :: Ky sl (Ow 130 2 rs.length (pcells (mpvs rs))) :: R) W := by
  have h1 : St w0 G (Xs rs low v :: R) W := h.find (k := v) (X := Xs rs low)
  obtain ⟨⟨b, sl⟩, h2⟩ := h1.openE
  obtain ⟨⟨hv, hs⟩, h3⟩ := h2.openA
  have h4 : St w0 G (Ky b (Ob (.cells [sl, .int .i64 low].toArray 63 (0, 0))) :: Ky sl (Ow 130 2 rs.length (pcells (mpvs rs))) :: R) W := h3
  exact ⟨b, sl, hv, hs, .of_own (h4.ow (v := sl)), h4⟩
theorem shutX {b n : Nat} {sl : Value} {cs : List Value} [i : Has l b (Ob (.cells [sl, .int .i64 low].toArray 63 (0, 0))) R1] [j : Has R1 sl (Ow 130 2 n cs) R] (h : St w0 G l W) (hs : Srt rs) (hn : n = rs.length) (hc : cs = pcells (mpvs rs)) : St w0 G (Ky (.pointer (some ⟨b, 0, none⟩)) (Xs rs low) :: R) W := by
  subst hn; subst hc
  refine St.shutE (f := fun p : Nat × Value => As.all (Value.pointer (some ⟨b, 0, none⟩) = Value.pointer (some ⟨p.1, 0, none⟩) ∧ Srt rs) [Ky p.1 (Ob (.cells [p.2, .int .i64 low].toArray 63 (0, 0))), Ky p.2 (Ow 130 2 rs.length (pcells (mpvs rs)))]) (b, sl) (St.shutA ⟨rfl, hs⟩ ?_)
  show St w0 G (Ky b (Ob (.cells [sl, .int .i64 low].toArray 63 (0, 0))) :: Ky sl (Ow 130 2 rs.length (pcells (mpvs rs))) :: R) W
  obtain ⟨F, hF, hG⟩ := h.own
  exact { h with own := ⟨F, sepL_mono j.to (i.to F W hF), hG⟩ }
theorem freezeX [i : Has l PoolK.c (PlX kp) R] [j : Has l v (Xs rs low) R1] (h : St w0 G l W) (hk : InX kp rs) : XsZ rs low W v := by
  have hp := hk.ch h
  obtain ⟨b, sl, hv, hs, o, h2⟩ := openX (v := v) h
  exact ⟨b, sl, hv, hs, h2.rc, h2.osl (v := sl), hp⟩
theorem XsZ.below (h : XsZ rs low W v) (hb : Below W.heap.size W W') : XsZ rs low W' v := by
  obtain ⟨b, sl, hv, hs, h1, h2, h3⟩ := h
  exact ⟨b, sl, hv, hs, h1.below hb, h2.below hb, h3.below hb⟩
theorem mpRow {i : Nat} {r : Txt × OneV × List (Ver Txt)} (h : rs[i]? = some r) : (mpvs rs)[i]? = some (r.1, r.2.1) := mapV_at _ h

/-- find -/
theorem xfind_spec (hz : XsZ rs low W v) (hl : rs.length ≤ 1000000) (k : ∀ W', Below W.heap.size W W' → RR (.tuple #[nV .i64 (posK key rs), .bool (hasK key rs)]) W') :
    CallF Try.prog 88 #[v, strV key] W RR := by
  refine sh88_calls ?_
  unfold sh88
  obtain ⟨b, sl, rfl, hs, hr, hsl, hc⟩ := hz
  have hp := posK_le key rs
  have d1 : Below W.heap.size W W.drew := (Below.refl _ _).drew
  refine ⟨fun w => Rec w b 63 [sl, .int .i64 low] ∧ w = W.drew, ⟨hr.below d1, rfl⟩, ?_⟩
  refine a_nil (a_fld0 ?_)
  refine s_ld (t := 63) (cs := [sl, .int .i64 low]) (fun w hw => hw.1) rfl ?_
  refine x_lenSs hsl ?_
  refine lpx (α := Nat × Nat) (fun x => [nV .i64 x.1, nV .i64 x.2]) (fun x W' => x.1 ≤ posK key rs ∧ posK key rs ≤ x.2 ∧ x.2 ≤ rs.length ∧ W' = W.drew) (fun x => x.2 - x.1) (0, rs.length) (fun _ => rfl) rfl ⟨Nat.zero_le _, hp, Nat.le_refl _, rfl⟩ ?_
  rintro next ⟨lo, hi⟩ W1 hnext ⟨h1, h2, h3, rfl⟩
  simp only at h1 h2 h3 ⊢
  refine app2 ?_
  refine a_lss (ifd (fun hlt => ?_) fun hge => ?_)
  · refine a_add64 (by omega) (by omega) ?_
    refine a_quo64 (by omega) (by omega) (by omega) ?_
    rw [show ((lo : Int) + (hi : Int)) / 2 = (((lo + hi) / 2 : Nat) : Int) by omega]
    have hm : (lo + hi) / 2 < rs.length := by omega
    obtain ⟨r, hrm⟩ : ∃ r, rs[(lo + hi) / 2]? = some r := ⟨_, List.getElem?_eq_getElem hm⟩
    have hiff := posK_iff (k := key) hs hrm
    refine jni (fun vs W' => ∃ lo' hi', vs = [.pointer (some ⟨b, 0, none⟩), strV key, nV .i64 lo', nV .i64 hi'] ∧ hi' - lo' < hi - lo ∧ lo' ≤ posK key rs ∧ posK key rs ≤ hi' ∧ hi' ≤ rs.length ∧ W' = W.drew) ?_ ?_
    · rintro vs W2 _ ⟨lo', hi', rfl, hm', a1, a2, a3, rfl⟩
      refine app4 ⟨rfl, rfl, ?_⟩
      exact hnext (lo', hi') _ hm' ⟨a1, a2, a3, rfl⟩
    refine a_nil (a_fld0 (w_ldR (hr.below d1) rfl ?_))
    refine x_fld (hsl.below d1) hm (by decide) (pcells_get (mpRow hrm)).1 ?_
    refine x_lssL (ifb (fun hk => ?_) fun hk => ?_)
    · have := hiff.1 hk
      refine a_add64 (by omega) (by omega) ?_
      rw [show ((((lo + hi) / 2 : Nat) : Int) + 1) = (((lo + hi) / 2 + 1 : Nat) : Int) by push_cast; rfl]
      exact ⟨_, _, rfl, by omega, by omega, by omega, by omega, rfl⟩
    · have : ¬ (lo + hi) / 2 < posK key rs := fun hx => by have := hiff.2 hx; rw [show OKey.lt r.1 key = false from hk] at this; cases this
      exact ⟨_, _, rfl, by omega, by omega, by omega, by omega, rfl⟩
  · obtain rfl : lo = posK key rs := by omega
    have d2 : Below W.heap.size W W.drew.drew := d1.drew
    refine ⟨fun w => Rec w b 63 [sl, .int .i64 low] ∧ w = W.drew.drew, ⟨hr.below d2, rfl⟩, ?_⟩
    refine a_nil (a_fld0 ?_)
    refine s_ld (t := 63) (cs := [sl, .int .i64 low]) (fun w hw => hw.1) rfl ?_
    refine x_lenSs hsl ?_
    refine a_lss (ifd (fun hlt => ?_) fun hge => ?_)
    · obtain ⟨r, hrm⟩ : ∃ r, rs[posK key rs]? = some r := ⟨_, List.getElem?_eq_getElem (by omega)⟩
      refine a_nil (a_fld0 ?_)
      refine s_ld (t := 63) (cs := [sl, .int .i64 low]) (fun w hw => hw.1) rfl ?_
      refine x_sfld (hsl.below d2) (fun w hw => by rw [hw.2]; exact hsl.below d2) (by omega) (by decide) (pcells_get (mpRow hrm)).1 ?_
      refine s_eqlL ?_
      have : decide (r.1 = key) = hasK key rs := by unfold hasK; rw [hrm]
      rw [this]
      exact k _ d2
    · have : hasK key rs = false := by unfold hasK; rw [List.getElem?_eq_none (by omega)]
      have hh := k _ d2
      rw [this] at hh
      exact hh

theorem chainR_hasX (hs : Srt rs) : (hasK key rs = false → chainR (rwvs rs) key = []) ∧ (hasK key rs = true → ∃ r, rs[posK key rs]? = some r ∧ r.1 = key ∧ chainR (rwvs rs) key = r.2.2) := by
  have e2 : getK key (rwvs rs) = (getK key rs).map Prod.snd := mapV_get _ _ _
  have hg := getK_pos (k := key) hs
  constructor
  · intro h
    rw [h] at hg
    unfold chainR
    rw [e2, hg]; rfl
  · intro h
    obtain ⟨u, hu⟩ := hasK_spec.1 h
    rw [if_pos h, hu] at hg
    refine ⟨_, hu, rfl, ?_⟩
    unfold chainR
    rw [e2, hg]; rfl

/-- Chain -/
theorem xchain_spec {n : Nat} (hz : XsZ rs low W v) (hb : Bd n (rwvs rs)) (hn : n ≤ 1000000) (k : ∀ v' W', Cel1 v' → St W G0 [Ky v' (Ow 128 3 (chainR (rwvs rs) key).length (chCvs (chainR (rwvs rs) key)))] W' → RR v' W') :
    CallF Try.prog 42 #[v, strV key] W RR := by
  refine sh42_calls ?_
  unfold sh42
  have hl1 := hb.1
  rw [rwLenvs] at hl1
  refine xfind_spec (key := key) hz (by omega) fun W1 hb1 => ?_
  have hz1 := hz.below hb1
  obtain ⟨b, sl, rfl, hs, hr, hsl, hc⟩ := hz1
  obtain ⟨c1, c2⟩ := chainR_hasX (key := key) hs
  refine a_ext0 (a_ext1 (a_not ?_))
  have h : St W G0 [] W1 := (St.start W).ext hb1
  refine ifnb (fun hh => ?_) fun hh => ?_
  · rw [c1 hh] at k
    exact k _ W1 ⟨rfl⟩ (h.nilOw (e := 128) (sz := 3))
  · obtain ⟨r, hri, _, hce⟩ := c2 hh
    have hil := (List.getElem?_eq_some_iff.1 hri).1
    have hlc := hb.chain key
    rw [hce] at k hlc
    refine h.litB (vs := []) (cs := []) (fun u W2 o hb2 h => ?_) (by decide)
    refine a_nil (a_fld0 (w_ldR (hr.below hb2) rfl ?_))
    refine x_fld (hsl.below hb2) hil (by decide) (pcells_get (mpRow hri)).2 ?_
    refine St.app (v := u) h ((hc r (List.mem_of_getElem? hri)).below hb2) (chCvs_one r.2.2) (by unfold maxLen; omega) (by omega) fun v' W' o' h' _ => ?_
    refine k v' W' o' ?_
    rw [Nat.zero_add, List.nil_append] at h'
    exact h'.to

/-- Last -/
theorem xlast_spec {n : Nat} (hz : XsZ rs low W v) (hb : Bd n (rwvs rs)) (hn : n ≤ 1000000) (k : ∀ W', Below W.heap.size W W' → RR (.int .i64 (lastC (chainR (rwvs rs) key))) W') : CallF Try.prog 40 #[v, strV key] W RR := by
  refine sh40_calls ?_
  unfold sh40
  refine xchain_spec (key := key) hz hb hn fun x W' ox h => ?_
  have hs := h.osl (v := x)
  have hcl := hb.chain key
  have hb' := h.low
  generalize chainR (rwvs rs) key = l at *
  refine x_lenS hs ?_
  refine w_eql (ifd (fun hc => ?_) fun hc => ?_)
  · have : l = [] := List.eq_nil_of_length_eq_zero (by omega)
    subst this
    exact k W' hb'
  · refine x_lenS hs ?_
    refine a_sub64 (by omega) (by omega) ?_
    obtain ⟨u, hu⟩ : ∃ u, l[l.length - 1]? = some u := ⟨_, List.getElem?_eq_getElem (by omega)⟩
    rw [show ((l.length : Int) - 1) = ((l.length - 1 : Nat) : Int) by omega]
    refine x_fld hs (by omega) (by decide) (chCvs_0 hu) ?_
    rw [← lastC_eq hu]
    exact k W' hb'

/-- seen -/
theorem xseen_spec {l : List (Ver Txt)} {v : Value} {n : Nat} {t : Int} (hv : Sl W 3 v n (chCvs l)) (hn : n = l.length) (hl : l.length ≤ 1000000) (hg : GdC l) (k : ∀ W', Below W.heap.size W W' → RR (.tuple #[strV ((toldC l t).getD default), .bool (toldC l t).isSome]) W') :
    CallF Try.prog 89 #[v, .int .i64 t] W RR := by
  refine sh89_calls ?_
  unfold sh89
  subst hn
  refine x_lenS hv ?_
  refine a_sub64 (by omega) (by omega) ?_
  refine lpx (α := Nat) (fun i => [.int .i64 ((i : Int) - 1)]) (fun i W' => i ≤ l.length ∧ seenF l t i = seenN l t ∧ W' = W) (fun i => i) l.length (fun _ => rfl) rfl ⟨Nat.le_refl _, rfl, rfl⟩ ?_
  rintro next i W' hnext ⟨hi, hs, rfl⟩
  refine app1 ?_
  refine a_geq (ifd (fun hc => ?_) fun hc => ?_)
  · obtain ⟨q, rfl⟩ : ∃ q, i = q + 1 := ⟨i - 1, by omega⟩
    obtain ⟨u, hu⟩ : ∃ u, l[q]? = some u := ⟨_, List.getElem?_eq_getElem (by omega)⟩
    have hs' : (if t < u.1 then seenF l t q else q + 1) = seenN l t := by
      rw [← hs]
      show _ = seenF l t (q + 1)
      rw [seenF, hu]
    rw [show (((q + 1 : Nat) : Int) - 1) = (q : Int) by omega]
    refine x_fld hv (by omega) (by decide) (chCvs_0 hu) ?_
    refine a_leq (ifd (fun hle => ?_) fun hgt => ?_)
    · rw [if_neg (by omega)] at hs'
      obtain ⟨e1, e2⟩ := hg.told hs'.symm hu
      have hb : Below W'.heap.size W' W'.drew := (Below.refl _ _).drew
      refine ⟨fun w => w = W'.drew, rfl, ?_⟩
      refine x_sfld (hv.below hb) (fun _ e => by subst e; exact hv.below hb) (by omega) (by decide) (chCvs_1 hu) ?_
      refine x_sfld (hv.below hb) (fun _ e => by subst e; exact hv.below hb) (by omega) (by decide) (chCvs_2 hu) ?_
      refine a_not ?_
      have := k _ hb
      rw [e1, e2] at this
      exact this
    · rw [if_pos (by omega)] at hs'
      refine a_sub64 (by omega) (by omega) ⟨rfl, rfl, ?_⟩
      exact hnext q W' (by omega) ⟨by omega, hs', rfl⟩
  · obtain rfl : i = 0 := by omega
    have := k W' (Below.refl _ _)
    have e : toldC l t = none := by unfold toldC; rw [← hs]; rfl
    rw [e] at this
    exact this

/-- Get -/
theorem xget_spec {n : Nat} {t : Int} (hz : XsZ rs low W v) (hb : Bd n (rwvs rs)) (hn : n ≤ 1000000) (hg : Gd (rwvs rs)) (k : ∀ W', Below W.heap.size W W' → RR (.tuple #[strV ((toldC (chainR (rwvs rs) key) t).getD default), .bool (toldC (chainR (rwvs rs) key) t).isSome]) W') :
    CallF Try.prog 43 #[v, strV key, .int .i64 t] W RR := by
  refine sh43_calls ?_
  unfold sh43
  have hl1 := hb.1
  rw [rwLenvs] at hl1
  refine xfind_spec (key := key) hz (by omega) fun W1 hb1 => ?_
  have hz1 := hz.below hb1
  obtain ⟨b, sl, rfl, hs, hr, hsl, hc⟩ := hz1
  obtain ⟨c1, c2⟩ := chainR_hasX (key := key) hs
  refine a_ext0 (a_ext1 (a_not ?_))
  refine ifnb (fun hh => ?_) fun hh => ?_
  · rw [c1 hh] at k
    exact k W1 hb1
  · obtain ⟨r, hri, _, hce⟩ := c2 hh
    have hil := (List.getElem?_eq_some_iff.1 hri).1
    have hlc := hb.chain key
    have hgc := hg.chain key
    rw [hce] at k hlc hgc
    refine a_nil (a_fld0 (w_ldR hr rfl ?_))
    refine x_fld hsl hil (by decide) (pcells_get (mpRow hri)).2 ?_
    refine xseen_spec (hc r (List.mem_of_getElem? hri)) rfl (by omega) hgc fun W2 hb2 => ?_
    refine a_ext0 (a_ext1 ?_)
    exact k W2 (Below.next hb1 hb2)

/-- Low, Count -/
theorem xlow_spec (hz : XsZ rs low W v) (k : RR (.int .i64 low) W) : CallF Try.prog 39 #[v] W RR := by
  refine sh39_calls ?_
  unfold sh39
  obtain ⟨b, sl, rfl, hs, hr, hsl, hc⟩ := hz
  refine a_nil (a_fld0 (w_ldR hr rfl ?_))
  exact k
theorem rwRow {i : Nat} {r : Txt × OneV × List (Ver Txt)} (h : rs[i]? = some r) : (rwvs rs)[i]? = some (r.1, r.2.2) := mapV_at _ h
theorem xcount_spec {n : Nat} (hz : XsZ rs low W v) (hb : Bd n (rwvs rs)) (hn : n ≤ 1000000) (k : RR (nV .i64 (countR (rwvs rs))) W) : CallF Try.prog 38 #[v] W RR := by
  refine sh38_calls ?_
  unfold sh38
  obtain ⟨b, sl, rfl, hs, hr, hsl, hc⟩ := hz
  have hl1 := hb.1
  rw [rwLenvs] at hl1
  have hcb := countR_bd hb.2
  rw [rwLenvs] at hcb
  have hcb2 : rs.length * n ≤ 1000000 * 1000000 := Nat.mul_le_mul (by omega) (by omega)
  refine lpx (α := Nat) (fun i => [nV .i64 (countR ((rwvs rs).take i)), nV .i64 i]) (fun i W' => i ≤ rs.length ∧ W' = W) (fun i => rs.length - i) 0 (fun _ => rfl) rfl ⟨Nat.zero_le _, rfl⟩ ?_
  rintro next i W1 hnext ⟨hi, rfl⟩
  refine app2 ?_
  refine a_nil (a_fld0 (w_ldR hr rfl ?_))
  refine x_lenS hsl ?_
  refine a_lss (ifd (fun hlt => ?_) fun hge => ?_)
  · obtain ⟨r, hri⟩ : ∃ r, rs[i]? = some r := ⟨_, List.getElem?_eq_getElem (by omega)⟩
    refine a_nil (a_fld0 (w_ldR hr rfl ?_))
    refine x_fld hsl (by omega) (by decide) (pcells_get (mpRow hri)).2 ?_
    refine x_lenS (hc r (List.mem_of_getElem? hri)) ?_
    have e1 : countR ((rwvs rs).take (i + 1)) = countR ((rwvs rs).take i) + r.2.2.length := by
      rw [List.take_add_one, rwRow hri, countR_append]
      simp [countR]
    have e2 : countR ((rwvs rs).take (i + 1)) ≤ countR (rwvs rs) := by
      have := countR_append ((rwvs rs).take (i + 1)) ((rwvs rs).drop (i + 1))
      rw [List.take_append_drop] at this
      omega
    refine a_add64 (by omega) (by omega) ?_
    refine a_add64 (by omega) (by omega) ⟨rfl, ?_⟩
    rw [show ((i : Int) + 1) = ((i + 1 : Nat) : Int) by push_cast; rfl, show (((countR ((rwvs rs).take i) : Nat) : Int) + ((r.2.2.length : Nat) : Int)) = ((countR ((rwvs rs).take (i + 1)) : Nat) : Int) by rw [e1]; push_cast; rfl]
    exact hnext (i + 1) W1 (by omega) ⟨by omega, rfl⟩
  · obtain rfl : i = rs.length := by omega
    rw [← rwLenvs, List.take_length]
    exact k

/-- Scan -/
theorem xscan_spec {n : Nat} {lo hi : Txt} {t : Int} {Wz : World} (hz : XsZ rs low Wz v) (hb : Bd n (rwvs rs)) (hn : n ≤ 1000000) (hg : Gd (rwvs rs)) (k : ∀ v' W', Cel1 v' → St Wz G0 [Ky v' (Ow 50 2 (scanR (rwvs rs) lo hi t).length (pcells (scanR (rwvs rs) lo hi t)))] W' → RR v' W') :
    CallF Try.prog 44 #[v, strV lo, strV hi, .int .i64 t] Wz RR := by
  refine sh44_calls ?_
  unfold sh44
  have hl1 := hb.1
  rw [rwLenvs] at hl1
  refine xfind_spec (key := lo) hz (by omega) fun W1 hb1 => ?_
  obtain ⟨b, sl, rfl, hs, hr, hsl, hc⟩ := hz
  have hsr : Srt (rwvs rs) := (mapV_srt _).2 hs
  have hpl := posK_le lo rs
  have hpe : posK lo (rwvs rs) = posK lo rs := mapV_pos _ _ _
  refine a_ext0 (a_ext1 ?_)
  refine jni (fun vs W' => ∃ v', vs = [v'] ∧ Cel1 v' ∧ St Wz G0 [Ky v' (Ow 50 2 (scanR (rwvs rs) lo hi t).length (pcells (scanR (rwvs rs) lo hi t)))] W') (by rintro vs W2 _ ⟨v', rfl, o, h⟩; exact app1 (k v' W2 o h)) ?_
  have h0 : St Wz G0 [Ky (.slice none 0 0 : Value) (Ow 50 2 0 (pcells ([] : List (Txt × Txt))))] W1 := ((St.start Wz).ext hb1).nilOw
  have hst := scanR_start hsr lo hi t
  rw [hpe] at hst
  refine lpx (α := Value × Nat) (fun x => [x.1, nV .i64 x.2]) (fun x W' => posK lo rs ≤ x.2 ∧ x.2 ≤ rs.length ∧ Cel1 x.1 ∧ St Wz G0 [Ky x.1 (Ow 50 2 (scanR ((rwvs rs).take x.2) lo hi t).length (pcells (scanR ((rwvs rs).take x.2) lo hi t)))] W') (fun x => rs.length - x.2) (.slice none 0 0, posK lo rs) (fun _ => rfl) rfl ⟨Nat.le_refl _, hpl, ⟨rfl⟩, by
    show St Wz G0 [Ky _ (Ow _ 2 (scanR ((rwvs rs).take (posK lo rs)) lo hi t).length (pcells (scanR ((rwvs rs).take (posK lo rs)) lo hi t)))] _
    rw [hst]; exact h0⟩ ?_
  clear h0
  rintro next ⟨sv, i⟩ W2 hnext ⟨hi1, hi2, osv, h⟩
  simp only at hi1 hi2 osv h ⊢
  refine app2 ?_
  -- a row taken
  refine jni (fun vs W' => vs = [.pointer (some ⟨b, 0, none⟩), strV hi, .int .i64 t, sv, nV .i64 i] ∧ i < rs.length ∧ (∀ r, rs[i]? = some r → inR lo hi r.1 = true) ∧ W' = W2) ?_ ?_
  · rintro vs W3 _ ⟨rfl, hil, hin, rfl⟩
    obtain ⟨r, hri⟩ : ∃ r, rs[i]? = some r := ⟨_, List.getElem?_eq_getElem hil⟩
    have hin := hin r hri
    have hmem := List.mem_of_getElem? hri
    have hlc : r.2.2.length ≤ n := hb.2 (r.1, r.2.2) (List.mem_of_getElem? (rwRow hri))
    have hgc : GdC r.2.2 := hg (r.1, r.2.2) (List.mem_of_getElem? (rwRow hri))
    have hstep := scanR_take (lo := lo) (hi := hi) (t := t) (rwRow hri)
    rw [if_pos (show inR lo hi (r.1, r.2.2).1 = true from hin)] at hstep
    have hsle := scanR_len (rows := (rwvs rs).take i) lo hi t
    rw [List.length_take, rwLenvs] at hsle
    refine app5 ?_
    refine a_nil (a_fld0 (w_ldR (hr.below h.low) rfl ?_))
    refine x_fld (hsl.below h.low) hil (by decide) (pcells_get (mpRow hri)).2 ?_
    refine xseen_spec ((hc r hmem).below h.low) rfl (by omega) hgc fun W4 hb4 => ?_
    replace h := h.ext hb4
    refine a_ext0 (a_ext1 ?_)
    refine jni (fun vs W' => ∃ sv', vs = [.pointer (some ⟨b, 0, none⟩), strV hi, .int .i64 t, sv', nV .i64 i] ∧ Cel1 sv' ∧ St Wz G0 [Ky sv' (Ow 50 2 (scanR ((rwvs rs).take (i + 1)) lo hi t).length (pcells (scanR ((rwvs rs).take (i + 1)) lo hi t)))] W') ?_ ?_
    · rintro vs W5 _ ⟨sv', rfl, o', h'⟩
      refine app5 ?_
      refine a_add64 (by omega) (by omega) ⟨rfl, rfl, rfl, ?_⟩
      rw [show ((i : Int) + 1) = ((i + 1 : Nat) : Int) by push_cast; rfl]
      exact hnext (sv', i + 1) W5 (by show rs.length - (i + 1) < rs.length - i; omega) ⟨by show _ ≤ i + 1; omega, by show i + 1 ≤ _; omega, o', h'⟩
    cases ht : toldC r.2.2 t with
    | none =>
      rw [ht] at hstep
      refine iff' ⟨sv, rfl, osv, ?_⟩
      rw [hstep, show (Option.map (fun x => ((r.1, r.2.2).1, x)) (none : Option Txt)).toList = [] from rfl, List.append_nil]
      exact h
    | some x =>
      rw [ht] at hstep
      refine ift ?_
      refine a_nil (a_fld0 (w_ldR (hr.below h.low) rfl ?_))
      refine x_fld (hsl.below h.low) hil (by decide) (pcells_get (mpRow hri)).1 ?_
      refine x_bld (cells := [strV r.1, strV x].toArray) rfl ?_
      refine h.lit (vs := [.agg [strV r.1, strV x].toArray]) (cs := [strV r.1, strV x]) (fun u2 W o2 h => ?_) (by decide)
      refine St.app (v := sv) h (h.osl (v := u2)) (by simp [Value.oneCell']) (by unfold maxLen; omega) (by omega) fun v' W o' h _ => ?_
      refine ⟨v', rfl, o', ?_⟩
      rw [hstep, show (Option.map (fun x => ((r.1, r.2.2).1, x)) (some x)).toList = [(r.1, x)] from rfl, List.length_append, pcells_append]
      have h' : St Wz G0 [Ky v' (Ow 50 2 ((scanR ((rwvs rs).take i) lo hi t).length + 1) (pcells (scanR ((rwvs rs).take i) lo hi t) ++ [strV r.1, strV x]))] W := h.to
      exact h'
  · refine a_nil (a_fld0 (w_ldR (hr.below h.low) rfl ?_))
    refine x_lenS (hsl.below h.low) ?_
    have geq : ∀ r, rs[i]? = some r → OKey.lt r.1 lo = false := fun r hri => posK_ge hs hri hi1
    refine a_lss (ifd (fun hlt => ?_) fun hge => ?_)
    · refine w_eqlL (ifd (fun he => ?_) fun hne => ?_)
      · refine ⟨rfl, by omega, fun r hri => ?_, rfl⟩
        unfold inR
        rw [geq r hri, he]; rfl
      · obtain ⟨r, hri⟩ : ∃ r, rs[i]? = some r := ⟨_, List.getElem?_eq_getElem (by omega)⟩
        refine a_nil (a_fld0 (w_ldR (hr.below h.low) rfl ?_))
        refine x_fld (hsl.below h.low) (by omega) (by decide) (pcells_get (mpRow hri)).1 ?_
        refine x_lssL (ifb (fun hk => ?_) fun hk => ?_)
        · refine ⟨rfl, by omega, fun r' hri' => ?_, rfl⟩
          rw [hri] at hri'; cases hri'
          unfold inR
          rw [geq r hri, show OKey.lt r.1 hi = true from hk]; simp
        · refine ⟨sv, rfl, osv, ?_⟩
          rw [← scanR_stop hsr hne (rwRow hri) hk]
          exact h
    · obtain rfl : i = rs.length := by omega
      rw [← rwLenvs, List.take_length] at h
      exact ⟨sv, rfl, osv, h⟩
end
end Go.Proofs.Ytffnabbchghokaa
