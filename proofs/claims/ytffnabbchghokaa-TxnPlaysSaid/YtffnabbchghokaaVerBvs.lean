/-
  VERSIONS (of string): stores: their chains kept in a pool, their rows: New, Last, Get, Chain, Count, Put, Kill: what each function answers.
-/
import Derived.Test.YtffnabbchghokaaVerAvs
import Derived.Test.YtffnabbchghokaaVerQ
import Derived.Test.YtffnabbchghokaaOmZzvs
import Derived.Test.YtffnabbchghokaaOmLhvs
import Derived.Test.YtffnabbchghokaaEzKq
namespace Go.Proofs.Ytffnabbchghokaa
open Go Go.Ez Go.RowKit
set_option linter.unusedSimpArgs false
set_option linter.unusedVariables false

/-- rows with their chains' slices -/
abbrev Rsvs := List (Txt × OneV × List (Ver Txt))
abbrev mpvs (rs : Rsvs) : List (Txt × OneV) := mapV Prod.fst rs
abbrev rwvs (rs : Rsvs) : VRows Txt := mapV Prod.snd rs
/-- v points to a store of these rows -/
def Vsvs (rs : Rsvs) (low : Int) (v : Value) : As := As.ex fun p : Nat × Value => As.all (v = .pointer (some ⟨p.1, 0, none⟩)) [Ky p.1 (Ob (.cells [p.2, .int .i64 low].toArray 114 (0, 0))), Ky p.2 (Mpvs (mpvs rs))]
/-- the chains lie in the pool -/
def Invs (kp : List (Value × List (Ver Txt))) (rs : Rsvs) : Prop := ∀ r ∈ rs, (r.2.1.v, r.2.2) ∈ kp
abbrev Plvs (kp : List (Value × List (Ver Txt))) : PoolK → As := Kq verCvs 58 3 kp
/-- the chains lie in memory -/
def Chvs (rs : Rsvs) (W : World) : Prop := ∀ r ∈ rs, Sl W 3 r.2.1.v r.2.2.length (chCvs r.2.2)
/-- a store left alone -/
def VsZvs (rs : Rsvs) (low : Int) (W : World) (v : Value) : Prop := ∃ b mv, v = .pointer (some ⟨b, 0, none⟩) ∧ Rec W b 114 [mv, .int .i64 low] ∧ Mzvs (mpvs rs) W mv ∧ Chvs rs W
theorem rwLenvs (rs : Rsvs) : (rwvs rs).length = rs.length := mapV_len _ _
theorem mpLenvs (rs : Rsvs) : (mpvs rs).length = rs.length := mapV_len _ _

section
variable {w0 W W' : World} {G : Nat → Prop} {l R R1 : List As} {rs : Rsvs} {low : Int} {v : Value} {RR : Value → World → Prop} {kp : List (Value × List (Ver Txt))}
theorem _root_.Go.Ez.St.openVvs [i : Has l v (Vsvs rs low) R] (h : St w0 G l W) : ∃ b mv, v = .pointer (some ⟨b, 0, none⟩) ∧ St w0 G (Ky b (Ob (.cells [mv, .int .i64 low].toArray 114 (0, 0))) :: Ky mv (Mpvs (mpvs rs)) :: R) W := by
  have h1 : St w0 G (Vsvs rs low v :: R) W := h.find (k := v) (X := Vsvs rs low)
  obtain ⟨⟨b, mv⟩, h2⟩ := h1.openE
  obtain ⟨hv, h3⟩ := h2.openA
  exact ⟨b, mv, hv, h3⟩
theorem _root_.Go.Ez.St.shutVvs {b : Nat} {mv : Value} {m : List (Txt × OneV)} [i : Has l b (Ob (.cells [mv, .int .i64 low].toArray 114 (0, 0))) R1] [j : Has R1 mv (Mpvs m) R] (h : St w0 G l W) (hm : m = mpvs rs) : St w0 G (Ky (.pointer (some ⟨b, 0, none⟩)) (Vsvs rs low) :: R) W := by
  subst hm
  refine St.shutE (f := fun p : Nat × Value => As.all (Value.pointer (some ⟨b, 0, none⟩) = Value.pointer (some ⟨p.1, 0, none⟩)) [Ky p.1 (Ob (.cells [p.2, .int .i64 low].toArray 114 (0, 0))), Ky p.2 (Mpvs (mpvs rs))]) (b, mv) (St.shutA rfl ?_)
  show St w0 G (Ky b (Ob (.cells [mv, .int .i64 low].toArray 114 (0, 0))) :: Ky mv (Mpvs (mpvs rs)) :: R) W
  obtain ⟨F, hF, hG⟩ := h.own
  exact { h with own := ⟨F, sepL_mono j.to (i.to F W hF), hG⟩ }
theorem Invs.ch [i : Has l PoolK.a (Plvs kp) R] (hk : Invs kp rs) (h : St w0 G l W) : Chvs rs W := fun r hr => h.kqGet PoolK.a (hk r hr)
theorem _root_.Go.Ez.St.freezeVvs [i : Has l PoolK.a (Plvs kp) R] [j : Has l v (Vsvs rs low) R1] (h : St w0 G l W) (hk : Invs kp rs) : VsZvs rs low W v := by
  have hp := hk.ch h
  obtain ⟨b, mv, hv, h2⟩ := h.openVvs (v := v)
  exact ⟨b, mv, hv, h2.rc, h2.freeze (v := mv), hp⟩
theorem Chvs.below (h : Chvs rs W) (hb : Below W.heap.size W W') : Chvs rs W' := fun r hr => (h r hr).below hb
theorem VsZvs.below (h : VsZvs rs low W v) (hb : Below W.heap.size W W') : VsZvs rs low W' v := by
  obtain ⟨b, mv, hv, h1, h2, h3⟩ := h
  exact ⟨b, mv, hv, h1.below hb, h2.below hb, h3.below hb⟩
theorem VsZvs.srt (h : VsZvs rs low W v) : Srt rs := by
  obtain ⟨b, mv, hv, h1, ⟨_, _, _, h2, _⟩, h3⟩ := h
  exact (mapV_srt _).1 h2

/-- vers.New -/
theorem vnewvs_spec (h : St w0 G l W) (k : ∀ v W', St w0 G (Ky v (Vsvs [] 0) :: l) W' → Cel1 v → RR v W') : CallF Try.prog 20 #[] W RR := by
  refine sh20_calls ?_
  unfold sh20
  refine newvs_spec h fun mv W h => ?_
  obtain ⟨b0, hmv, _⟩ := h.ptrM (v := mv)
  refine x_bld (cells := #[mv, .int .i64 0]) (by subst hmv; rfl) ?_
  refine h.boxS (cs := [mv, .int .i64 0]) fun b W h => ?_
  exact k _ W (h.shutVvs (b := b) (mv := mv) rfl) ⟨rfl⟩

/-- a key's chain -/
theorem mgetvs_spec {mv : Value} {key : Txt} (hz : Mzvs (mpvs rs) W mv) (hs : Chvs rs W) (hl : rs.length ≤ 1000000) (k : ∀ x b W', Cel1 x → Below W.heap.size W W' → Sl W' 3 x (chainR (rwvs rs) key).length (chCvs (chainR (rwvs rs) key)) →
      (∀ ov, getK key (mpvs rs) = some ov → x = ov.v) → RR (.tuple #[x, .bool b]) W') : CallF Try.prog 83 #[mv, strV key] W RR := by
  have e1 : getK key (mpvs rs) = (getK key rs).map Prod.fst := mapV_get _ _ _
  have e2 : getK key (rwvs rs) = (getK key rs).map Prod.snd := mapV_get _ _ _
  refine getvs_specZ (k := key) hz (by rw [mpLenvs]; omega) (fun x W' hg hb => ?_) fun W' hg hb => ?_
  · refine k x.v true W' ⟨x.one⟩ hb ?_ (fun ov h => by rw [hg] at h; cases h; rfl)
    rw [e1] at hg
    cases hr : getK key rs with
    | none => rw [hr] at hg; cases hg
    | some p =>
      rw [hr] at hg; cases hg
      have := (hs _ (getK_mem hr)).below hb
      unfold chainR
      rw [e2, hr]
      exact this
  · refine k (.slice none 0 0) false W' ⟨rfl⟩ hb ?_ (fun ov h => by rw [hg] at h; cases h)
    rw [e1] at hg
    cases hr : getK key rs with
    | some p => rw [hr] at hg; cases hg
    | none =>
      unfold chainR
      rw [e2, hr]
      exact Sl.nil W' 3

/-- Last -/
theorem lastvs_spec {n : Nat} {key : Txt} (hz : VsZvs rs low W v) (hb : Bd n (rwvs rs)) (hn : n ≤ 1000000) (k : ∀ W', Below W.heap.size W W' → RR (.int .i64 (lastC (chainR (rwvs rs) key))) W') : CallF Try.prog 32 #[v, strV key] W RR := by
  refine sh32_calls ?_
  unfold sh32
  obtain ⟨b, mv, rfl, hr, hm, hc⟩ := hz
  have hl1 := hb.1
  rw [rwLenvs] at hl1
  have hcl := hb.chain key
  refine a_nil (a_fld0 (w_ldR hr rfl ?_))
  refine mgetvs_spec (key := key) hm hc (by omega) fun x b W' ox hb' hs _ => ?_
  generalize chainR (rwvs rs) key = l at *
  refine a_ext0 (a_ext1 ?_)
  refine x_lenS hs ?_
  refine w_eql (ifd (fun hc => ?_) fun hc => ?_)
  · have : l = [] := List.eq_nil_of_length_eq_zero (by omega)
    subst this
    exact k W' hb'
  · refine x_lenS hs ?_
    refine a_sub64 (by omega) (by omega) ?_
    obtain ⟨u, hu⟩ : ∃ u, l[l.length - 1]? = some u := ⟨_, List.getElem?_eq_getElem (by omega)⟩
    rw [show ((l.length : Int) - 1) = ((l.length - 1 : Nat) : Int) by omega]
    refine x_fld hs (by omega) (by decide) (chCvs_0 hu) ?_
    have := k W' hb'
    unfold lastC at this
    rw [List.getLast?_eq_getElem?, hu] at this
    exact this

/-- Get -/
theorem vgetvs_spec {n : Nat} {key : Txt} {t : Int} (hz : VsZvs rs low W v) (hb : Bd n (rwvs rs)) (hn : n ≤ 1000000) (k : ∀ W', Below W.heap.size W W' → RR (.tuple #[Enc.enc ((toldC (chainR (rwvs rs) key) t).getD default), .bool (toldC (chainR (rwvs rs) key) t).isSome]) W') :
    CallF Try.prog 28 #[v, strV key, .int .i64 t] W RR := by
  refine sh28_calls ?_
  unfold sh28
  obtain ⟨b, mv, rfl, hr, hm, hc⟩ := hz
  have hl1 := hb.1
  rw [rwLenvs] at hl1
  have hcl := hb.chain key
  refine a_nil (a_fld0 (w_ldR hr rfl ?_))
  refine mgetvs_spec (key := key) hm hc (by omega) fun x b W' ox hb' hs _ => ?_
  refine a_ext0 (a_ext1 ?_)
  refine toldvs_spec hs rfl (by omega) ?_
  refine a_ext0 (a_ext1 ?_)
  exact k W' hb'

/-- Count -/
theorem vcountvs_spec {n : Nat} {Wz : World} (hz : VsZvs rs low Wz v) (hb : Bd n (rwvs rs)) (hn : n ≤ 1000000) (k : ∀ W', Below Wz.heap.size Wz W' → RR (nV .i64 (countR (rwvs rs))) W') : CallF Try.prog 31 #[v] Wz RR := by
  refine sh31_calls ?_
  unfold sh31
  obtain ⟨b, mv, rfl, hr, hm, hc⟩ := hz
  have hl1 := hb.1
  rw [rwLenvs] at hl1
  have hcb := countR_bd hb.2
  rw [rwLenvs] at hcb
  have h := St.start Wz
  refine h.alloc fun bc W1 h => ?_
  (repeat (first | (with_reducible refine ift ?_) | (with_reducible refine iff' ?_) | (with_reducible refine a_lss ?_) | (with_reducible refine a_leq ?_) | (with_reducible refine a_gtr ?_) | (with_reducible refine a_geq ?_) | (with_reducible refine w_eql ?_) | (with_reducible refine w_neq ?_) | (with_reducible refine s_eql ?_) | (with_reducible refine s_neq ?_) | ((with_reducible refine a_add64 ?h0 ?h1 ?_); (case h0 => omega); (case h1 => omega);  skip) | ((with_reducible refine a_sub64 ?h0 ?h1 ?_); (case h0 => omega); (case h1 => omega);  skip) | ((with_reducible refine a_mul64 ?h0 ?h1 ?_); (case h0 => omega); (case h1 => omega);  skip) | (with_reducible refine a_notd ?_) | (with_reducible refine a_not ?_) | (with_reducible refine a_ext0 ?_) | (with_reducible refine a_ext1 ?_) | (with_reducible refine a_ext2 ?_) | (with_reducible refine x_len ?_) | (with_reducible refine x_lens ?_) | (with_reducible refine x_eqb ?_) | (with_reducible refine x_neb ?_) | (with_reducible refine x_nilP ?_) | (with_reducible refine x_nilPn ?_) | (with_reducible refine x_nilF ?_) | (with_reducible refine x_nilFF ?_) | (with_reducible refine w_eqlL ?_) | (with_reducible refine w_neqL ?_) | (with_reducible refine s_eqlL ?_) | (with_reducible refine ifnt ?_) | (with_reducible refine ifnf ?_) | (with_reducible refine x_eqB ?_) | (with_reducible refine x_neB ?_) | (with_reducible refine x_lssL ?_) | (with_reducible refine x_gtrL ?_) | (with_reducible refine x_geqL ?_) | (with_reducible refine s_neqL ?_) | (with_reducible refine St.load h ?_) | (with_reducible refine St.loadS h ?_) | (with_reducible refine a_fld0 ?_) | (with_reducible refine St.store h fun W h => ?_) | (with_reducible refine St.storeS h fun W h => ?_) | (with_reducible refine St.alloc h fun b W h => ?_) | (with_reducible refine St.allocS h fun b W h => ?_) | (with_reducible refine a_nil ?_) | (with_reducible refine ss_load ?_) | (with_reducible refine ss_loadS ?_) | (with_reducible refine ss_eqb ?_)))
  refine w_ldR (hr.below h.low) rfl ?_
  refine sh79_calls ?_
  unfold sh79
  obtain ⟨b0, sl, hmv, _⟩ := id hm
  have omv : Cel1 mv := by subst hmv; exact ⟨rfl⟩
  refine h.boxV fun ba W2 h => ?_
  refine v_func ?_
  have hI := all1vs_itrZ (b := ba) hm (by rw [mpLenvs]; omega)
  have hlen : ∀ x ∈ tellvs (mpvs rs), x.length = 2 := by
    intro x hx
    obtain ⟨p, _, rfl⟩ := List.mem_map.1 hx
    rfl
  refine rngI (C := fun i => Ky bc (Ob (.cells [nV .i64 (countR ((rwvs rs).take i))].toArray 3 (0, 0)))) (fun c i => As.all False []) hI hlen (l := []) ?_ ?_ ?_ ?_
  · have h' : St Wz G0 (Ky bc (Ob (.cells [nV .i64 0].toArray 3 (0, 0))) :: Ky (.func (.func 111) #[] #[.pointer (some ⟨ba, 0, none⟩)] : Value) (ItZvs ba mv) :: []) W2 := by
      replace h : St Wz G0 (Ky ba (Ob (.cells [mv].toArray 111 (0, 0))) :: Ky bc (Ob (.cells [nV .i64 0].toArray 3 (0, 0))) :: []) W2 := h.to
      exact St.swap (St.shut1 (φ := True) trivial h)
    exact h'
  · intro i x hxi ll rec I' W1 kn kst h hn' hk
    obtain ⟨r, hri, rfl⟩ : ∃ r, rs[i]? = some r ∧ x = [strV r.1, r.2.1.v] := by
      rw [List.getElem?_map] at hxi
      cases hp : (mpvs rs)[i]? with
      | none => rw [hp] at hxi; cases hxi
      | some p =>
        rw [hp] at hxi; cases hxi
        cases hq : rs[i]? with
        | none => unfold mpvs mapV at hp; rw [List.getElem?_map, hq] at hp; cases hp
        | some q => unfold mpvs mapV at hp; rw [List.getElem?_map, hq] at hp; cases hp; exact ⟨q, rfl, rfl⟩
    refine app2 ?_
    refine ⟨h.ob (b := ll), ?_⟩
    replace h := h.putO (b := ll) (o := .loop (rec .ready none)) (.loop (rec .busy none))
    replace h : St Wz G0 (Ky bc (Ob (.cells [nV .i64 (countR ((rwvs rs).take i))].toArray 3 (0, 0))) :: Ky ll (Ob (.loop (rec .busy none))) :: I') _ := h.swap
    refine app2 ?_
    have hcs := (hc _ (List.mem_of_getElem? hri)).below h.low
    have hrl : (rwvs rs)[i]? = some (r.1, r.2.2) := mapV_at _ hri
    have hle : countR ((rwvs rs).take i) + r.2.2.length ≤ countR (rwvs rs) := by
      have h1 := countR_append ((rwvs rs).take (i + 1)) ((rwvs rs).drop (i + 1))
      rw [List.take_append_drop, List.take_add_one, hrl, countR_append] at h1
      simp [countR] at h1 ⊢
      omega
    refine h.load ?_
    refine x_lenS hcs ?_
    have hcb2 : rs.length * n ≤ 1000000 * 1000000 := Nat.mul_le_mul (by omega) (by omega)
    refine a_add64 (by omega) (by omega) ?_
    refine h.store fun W h => ?_
    refine hn' W (St.swap ?_)
    have e : ((countR ((rwvs rs).take i) : Nat) : Int) + (r.2.2.length : Nat) = ((countR ((rwvs rs).take (i + 1)) : Nat) : Int) := by
      rw [List.take_add_one, hrl, countR_append]
      simp [countR]
    rw [e] at h
    exact h
  · intro DD W1 h
    rw [List.length_map, mpLenvs] at h
    have h : St Wz G0 (Ky bc (Ob (.cells [nV .i64 (countR ((rwvs rs).take rs.length))].toArray 3 (0, 0))) :: _) W1 := St.swap h
    rw [← rwLenvs, List.take_length] at h
    refine h.load ?_
    refine ⟨h.ob (b := DD), ?_⟩
    replace h := h.putO (b := DD) (o := .deferred (some [])) (.deferred none)
    exact k _ h.low
  · intro DD c i W hi h
    exact (St.openA h.swap).1.elim

/-- Chain, and Low -/
theorem vchainvs_spec {n : Nat} {key : Txt} (hz : VsZvs rs low W v) (hb : Bd n (rwvs rs)) (hn : n ≤ 1000000) (k : ∀ v' W', Cel1 v' → St W G0 [Ky v' (Ow 58 3 (chainR (rwvs rs) key).length (chCvs (chainR (rwvs rs) key)))] W' → RR v' W') :
    CallF Try.prog 33 #[v, strV key] W RR := by
  refine sh33_calls ?_
  unfold sh33
  obtain ⟨b, mv, rfl, hr, hm, hc⟩ := hz
  have hl1 := hb.1
  rw [rwLenvs] at hl1
  have hcl := hb.chain key
  refine a_nil (a_fld0 (w_ldR hr rfl ?_))
  refine mgetvs_spec (key := key) hm hc (by omega) fun x b W' ox hb' hs _ => ?_
  refine a_ext0 (a_ext1 ?_)
  refine vclonevs_spec hs rfl (by omega) fun v' W2 o h => ?_
  exact k v' W2 o ((St.start W).ext hb' |>.frame1 h)
theorem vlowvs_spec (hz : VsZvs rs low W v) (k : RR (.int .i64 low) W) : CallF Try.prog 23 #[v] W RR := by
  refine sh23_calls ?_
  unfold sh23
  obtain ⟨b, mv, rfl, hr, hm, hc⟩ := hz
  refine a_nil (a_fld0 (w_ldR hr rfl ?_))
  exact k

theorem inPutvs {x : OneV} {c : List (Ver Txt)} {key : Txt} (hk : Invs kp rs) : Invs ((x.v, c) :: kp) (putK key (x, c) rs) := by
  intro r hr
  rcases mem_putK hr with rfl | hr
  · exact List.mem_cons_self
  · exact List.mem_cons_of_mem _ (hk r hr)

/-- adds -/
theorem addsvs_spec {n : Nat} {key : Txt} {ver : Ver Txt} [i : Has l PoolK.a (Plvs kp) R1] [j : Has R1 v (Vsvs rs low) R] (h : St w0 G l W) (hk : Invs kp rs) (hb : Bd n (rwvs rs)) (hn : n ≤ 500000)
    (k : ∀ kp' rs' W', Invs kp' rs' → (∀ z ∈ kp, z ∈ kp') → rwvs rs' = (addR (rwvs rs) low key ver).2 → St w0 G (Ky v (Vsvs rs' low) :: Ky PoolK.a (Plvs kp') :: R) W' → RR (.int .i64 (addR (rwvs rs) low key ver).1) W') :
    CallF Try.prog 84 #[v, strV key, .agg (verCvs ver).toArray] W RR := by
  refine sh84_calls ?_
  unfold sh84
  have h : St w0 G (Ky v (Vsvs rs low) :: Ky PoolK.a (Plvs kp) :: R) W := by
    obtain ⟨F, hF, hG⟩ := h.own
    exact { h with own := ⟨F, sepL_swap (sepL_mono j.to (i.to F W hF)), hG⟩ }
  obtain ⟨t, val, gone⟩ := ver
  refine h.boxS (cs := [.int .i64 t, Enc.enc val, .bool gone]) fun b5 W h => ?_
  have kU : ∀ W', (addR (rwvs rs) low key (t, val, gone)).2 = rwvs rs → St w0 G (Ky v (Vsvs rs low) :: Ky PoolK.a (Plvs kp) :: R) W' → RR (.int .i64 (addR (rwvs rs) low key (t, val, gone)).1) W' := fun W' e h => k kp rs W' hk (fun z hz => hz) e.symm h
  (repeat (first | (with_reducible refine ift ?_) | (with_reducible refine iff' ?_) | (with_reducible refine a_lss ?_) | (with_reducible refine a_leq ?_) | (with_reducible refine a_gtr ?_) | (with_reducible refine a_geq ?_) | (with_reducible refine w_eql ?_) | (with_reducible refine w_neq ?_) | (with_reducible refine s_eql ?_) | (with_reducible refine s_neq ?_) | ((with_reducible refine a_add64 ?h0 ?h1 ?_); (case h0 => omega); (case h1 => omega);  skip) | ((with_reducible refine a_sub64 ?h0 ?h1 ?_); (case h0 => omega); (case h1 => omega);  skip) | ((with_reducible refine a_mul64 ?h0 ?h1 ?_); (case h0 => omega); (case h1 => omega);  skip) | (with_reducible refine a_notd ?_) | (with_reducible refine a_not ?_) | (with_reducible refine a_ext0 ?_) | (with_reducible refine a_ext1 ?_) | (with_reducible refine a_ext2 ?_) | (with_reducible refine x_len ?_) | (with_reducible refine x_lens ?_) | (with_reducible refine x_eqb ?_) | (with_reducible refine x_neb ?_) | (with_reducible refine x_nilP ?_) | (with_reducible refine x_nilPn ?_) | (with_reducible refine x_nilF ?_) | (with_reducible refine x_nilFF ?_) | (with_reducible refine w_eqlL ?_) | (with_reducible refine w_neqL ?_) | (with_reducible refine s_eqlL ?_) | (with_reducible refine ifnt ?_) | (with_reducible refine ifnf ?_) | (with_reducible refine x_eqB ?_) | (with_reducible refine x_neB ?_) | (with_reducible refine x_lssL ?_) | (with_reducible refine x_gtrL ?_) | (with_reducible refine x_geqL ?_) | (with_reducible refine s_neqL ?_) | (with_reducible refine St.load h ?_) | (with_reducible refine St.loadS h ?_) | (with_reducible refine a_fld0 ?_) | (with_reducible refine St.store h fun W h => ?_) | (with_reducible refine St.storeS h fun W h => ?_) | (with_reducible refine St.alloc h fun b W h => ?_) | (with_reducible refine St.allocS h fun b W h => ?_) | (with_reducible refine a_nil ?_) | (with_reducible refine ss_load ?_) | (with_reducible refine ss_loadS ?_) | (with_reducible refine ss_eqb ?_)))
  refine ifd (fun hc => ?_) fun hc => ?_
  · have e : addR (rwvs rs) low key (t, val, gone) = (1, rwvs rs) := by unfold addR; rw [if_pos (.inl hc)]
    have := kU W (by rw [e]) h.to
    rw [e] at this; exact this
  (repeat (first | (with_reducible refine ift ?_) | (with_reducible refine iff' ?_) | (with_reducible refine a_lss ?_) | (with_reducible refine a_leq ?_) | (with_reducible refine a_gtr ?_) | (with_reducible refine a_geq ?_) | (with_reducible refine w_eql ?_) | (with_reducible refine w_neq ?_) | (with_reducible refine s_eql ?_) | (with_reducible refine s_neq ?_) | ((with_reducible refine a_add64 ?h0 ?h1 ?_); (case h0 => omega); (case h1 => omega);  skip) | ((with_reducible refine a_sub64 ?h0 ?h1 ?_); (case h0 => omega); (case h1 => omega);  skip) | ((with_reducible refine a_mul64 ?h0 ?h1 ?_); (case h0 => omega); (case h1 => omega);  skip) | (with_reducible refine a_notd ?_) | (with_reducible refine a_not ?_) | (with_reducible refine a_ext0 ?_) | (with_reducible refine a_ext1 ?_) | (with_reducible refine a_ext2 ?_) | (with_reducible refine x_len ?_) | (with_reducible refine x_lens ?_) | (with_reducible refine x_eqb ?_) | (with_reducible refine x_neb ?_) | (with_reducible refine x_nilP ?_) | (with_reducible refine x_nilPn ?_) | (with_reducible refine x_nilF ?_) | (with_reducible refine x_nilFF ?_) | (with_reducible refine w_eqlL ?_) | (with_reducible refine w_neqL ?_) | (with_reducible refine s_eqlL ?_) | (with_reducible refine ifnt ?_) | (with_reducible refine ifnf ?_) | (with_reducible refine x_eqB ?_) | (with_reducible refine x_neB ?_) | (with_reducible refine x_lssL ?_) | (with_reducible refine x_gtrL ?_) | (with_reducible refine x_geqL ?_) | (with_reducible refine s_neqL ?_) | (with_reducible refine St.load h ?_) | (with_reducible refine St.loadS h ?_) | (with_reducible refine a_fld0 ?_) | (with_reducible refine St.store h fun W h => ?_) | (with_reducible refine St.storeS h fun W h => ?_) | (with_reducible refine St.alloc h fun b W h => ?_) | (with_reducible refine St.allocS h fun b W h => ?_) | (with_reducible refine a_nil ?_) | (with_reducible refine ss_load ?_) | (with_reducible refine ss_loadS ?_) | (with_reducible refine ss_eqb ?_)))
  refine ifd (fun hc2 => ?_) fun hc2 => ?_
  · have e : addR (rwvs rs) low key (t, val, gone) = (1, rwvs rs) := by unfold addR; rw [if_pos (.inr hc2)]
    have := kU W (by rw [e]) h.to
    rw [e] at this; exact this
  have e0 : ¬ (t < 1 ∨ t > 1099511627776) := fun hx => hx.elim hc hc2
  replace h := h.drew
  refine ⟨St w0 G _, h, ?_⟩
  (repeat (first | (with_reducible refine ift ?_) | (with_reducible refine iff' ?_) | (with_reducible refine a_lss ?_) | (with_reducible refine a_leq ?_) | (with_reducible refine a_gtr ?_) | (with_reducible refine a_geq ?_) | (with_reducible refine w_eql ?_) | (with_reducible refine w_neq ?_) | (with_reducible refine s_eql ?_) | (with_reducible refine s_neq ?_) | ((with_reducible refine a_add64 ?h0 ?h1 ?_); (case h0 => omega); (case h1 => omega);  skip) | ((with_reducible refine a_sub64 ?h0 ?h1 ?_); (case h0 => omega); (case h1 => omega);  skip) | ((with_reducible refine a_mul64 ?h0 ?h1 ?_); (case h0 => omega); (case h1 => omega);  skip) | (with_reducible refine a_notd ?_) | (with_reducible refine a_not ?_) | (with_reducible refine a_ext0 ?_) | (with_reducible refine a_ext1 ?_) | (with_reducible refine a_ext2 ?_) | (with_reducible refine x_len ?_) | (with_reducible refine x_lens ?_) | (with_reducible refine x_eqb ?_) | (with_reducible refine x_neb ?_) | (with_reducible refine x_nilP ?_) | (with_reducible refine x_nilPn ?_) | (with_reducible refine x_nilF ?_) | (with_reducible refine x_nilFF ?_) | (with_reducible refine w_eqlL ?_) | (with_reducible refine w_neqL ?_) | (with_reducible refine s_eqlL ?_) | (with_reducible refine ifnt ?_) | (with_reducible refine ifnf ?_) | (with_reducible refine x_eqB ?_) | (with_reducible refine x_neB ?_) | (with_reducible refine x_lssL ?_) | (with_reducible refine x_gtrL ?_) | (with_reducible refine x_geqL ?_) | (with_reducible refine s_neqL ?_) | (with_reducible refine St.load h ?_) | (with_reducible refine St.loadS h ?_) | (with_reducible refine a_fld0 ?_) | (with_reducible refine St.store h fun W h => ?_) | (with_reducible refine St.storeS h fun W h => ?_) | (with_reducible refine St.alloc h fun b W h => ?_) | (with_reducible refine St.allocS h fun b W h => ?_) | (with_reducible refine a_nil ?_) | (with_reducible refine ss_load ?_) | (with_reducible refine ss_loadS ?_) | (with_reducible refine ss_eqb ?_)))
  have hz : VsZvs rs low W.drew v := St.freezeVvs (kp := kp) h hk
  refine lastvs_spec hz hb (by omega) fun W1 hb1 => ?_
  replace h := h.ext hb1
  refine ⟨h, ?_⟩
  (repeat (first | (with_reducible refine ift ?_) | (with_reducible refine iff' ?_) | (with_reducible refine a_lss ?_) | (with_reducible refine a_leq ?_) | (with_reducible refine a_gtr ?_) | (with_reducible refine a_geq ?_) | (with_reducible refine w_eql ?_) | (with_reducible refine w_neq ?_) | (with_reducible refine s_eql ?_) | (with_reducible refine s_neq ?_) | ((with_reducible refine a_add64 ?h0 ?h1 ?_); (case h0 => omega); (case h1 => omega);  skip) | ((with_reducible refine a_sub64 ?h0 ?h1 ?_); (case h0 => omega); (case h1 => omega);  skip) | ((with_reducible refine a_mul64 ?h0 ?h1 ?_); (case h0 => omega); (case h1 => omega);  skip) | (with_reducible refine a_notd ?_) | (with_reducible refine a_not ?_) | (with_reducible refine a_ext0 ?_) | (with_reducible refine a_ext1 ?_) | (with_reducible refine a_ext2 ?_) | (with_reducible refine x_len ?_) | (with_reducible refine x_lens ?_) | (with_reducible refine x_eqb ?_) | (with_reducible refine x_neb ?_) | (with_reducible refine x_nilP ?_) | (with_reducible refine x_nilPn ?_) | (with_reducible refine x_nilF ?_) | (with_reducible refine x_nilFF ?_) | (with_reducible refine w_eqlL ?_) | (with_reducible refine w_neqL ?_) | (with_reducible refine s_eqlL ?_) | (with_reducible refine ifnt ?_) | (with_reducible refine ifnf ?_) | (with_reducible refine x_eqB ?_) | (with_reducible refine x_neB ?_) | (with_reducible refine x_lssL ?_) | (with_reducible refine x_gtrL ?_) | (with_reducible refine x_geqL ?_) | (with_reducible refine s_neqL ?_) | (with_reducible refine St.load h ?_) | (with_reducible refine St.loadS h ?_) | (with_reducible refine a_fld0 ?_) | (with_reducible refine St.store h fun W h => ?_) | (with_reducible refine St.storeS h fun W h => ?_) | (with_reducible refine St.alloc h fun b W h => ?_) | (with_reducible refine St.allocS h fun b W h => ?_) | (with_reducible refine a_nil ?_) | (with_reducible refine ss_load ?_) | (with_reducible refine ss_loadS ?_) | (with_reducible refine ss_eqb ?_)))
  refine ifd (fun hc3 => ?_) fun hc3 => ?_
  · have e : addR (rwvs rs) low key (t, val, gone) = (12, rwvs rs) := by unfold addR; rw [if_neg e0, if_pos (.inl hc3)]
    have := kU W1 (by rw [e]) h.to
    rw [e] at this; exact this
  replace hz := hz.below hb1
  have hz0 := hz
  obtain ⟨b, mv, rfl, hr, hm, hcs⟩ := hz
  (repeat (first | (with_reducible refine ift ?_) | (with_reducible refine iff' ?_) | (with_reducible refine a_lss ?_) | (with_reducible refine a_leq ?_) | (with_reducible refine a_gtr ?_) | (with_reducible refine a_geq ?_) | (with_reducible refine w_eql ?_) | (with_reducible refine w_neq ?_) | (with_reducible refine s_eql ?_) | (with_reducible refine s_neq ?_) | ((with_reducible refine a_add64 ?h0 ?h1 ?_); (case h0 => omega); (case h1 => omega);  skip) | ((with_reducible refine a_sub64 ?h0 ?h1 ?_); (case h0 => omega); (case h1 => omega);  skip) | ((with_reducible refine a_mul64 ?h0 ?h1 ?_); (case h0 => omega); (case h1 => omega);  skip) | (with_reducible refine a_notd ?_) | (with_reducible refine a_not ?_) | (with_reducible refine a_ext0 ?_) | (with_reducible refine a_ext1 ?_) | (with_reducible refine a_ext2 ?_) | (with_reducible refine x_len ?_) | (with_reducible refine x_lens ?_) | (with_reducible refine x_eqb ?_) | (with_reducible refine x_neb ?_) | (with_reducible refine x_nilP ?_) | (with_reducible refine x_nilPn ?_) | (with_reducible refine x_nilF ?_) | (with_reducible refine x_nilFF ?_) | (with_reducible refine w_eqlL ?_) | (with_reducible refine w_neqL ?_) | (with_reducible refine s_eqlL ?_) | (with_reducible refine ifnt ?_) | (with_reducible refine ifnf ?_) | (with_reducible refine x_eqB ?_) | (with_reducible refine x_neB ?_) | (with_reducible refine x_lssL ?_) | (with_reducible refine x_gtrL ?_) | (with_reducible refine x_geqL ?_) | (with_reducible refine s_neqL ?_) | (with_reducible refine St.load h ?_) | (with_reducible refine St.loadS h ?_) | (with_reducible refine a_fld0 ?_) | (with_reducible refine St.store h fun W h => ?_) | (with_reducible refine St.storeS h fun W h => ?_) | (with_reducible refine St.alloc h fun b W h => ?_) | (with_reducible refine St.allocS h fun b W h => ?_) | (with_reducible refine a_nil ?_) | (with_reducible refine ss_load ?_) | (with_reducible refine ss_loadS ?_) | (with_reducible refine ss_eqb ?_)))
  refine s_of (v := .int .i64 low) (fun w hw => ?_) ?_
  · obtain ⟨b', mv', e', hw2⟩ := hw.openVvs (v := (.pointer (some ⟨b, 0, none⟩) : Value))
    cases e'
    exact hw2.load rfl
  (repeat (first | (with_reducible refine ift ?_) | (with_reducible refine iff' ?_) | (with_reducible refine a_lss ?_) | (with_reducible refine a_leq ?_) | (with_reducible refine a_gtr ?_) | (with_reducible refine a_geq ?_) | (with_reducible refine w_eql ?_) | (with_reducible refine w_neq ?_) | (with_reducible refine s_eql ?_) | (with_reducible refine s_neq ?_) | ((with_reducible refine a_add64 ?h0 ?h1 ?_); (case h0 => omega); (case h1 => omega);  skip) | ((with_reducible refine a_sub64 ?h0 ?h1 ?_); (case h0 => omega); (case h1 => omega);  skip) | ((with_reducible refine a_mul64 ?h0 ?h1 ?_); (case h0 => omega); (case h1 => omega);  skip) | (with_reducible refine a_notd ?_) | (with_reducible refine a_not ?_) | (with_reducible refine a_ext0 ?_) | (with_reducible refine a_ext1 ?_) | (with_reducible refine a_ext2 ?_) | (with_reducible refine x_len ?_) | (with_reducible refine x_lens ?_) | (with_reducible refine x_eqb ?_) | (with_reducible refine x_neb ?_) | (with_reducible refine x_nilP ?_) | (with_reducible refine x_nilPn ?_) | (with_reducible refine x_nilF ?_) | (with_reducible refine x_nilFF ?_) | (with_reducible refine w_eqlL ?_) | (with_reducible refine w_neqL ?_) | (with_reducible refine s_eqlL ?_) | (with_reducible refine ifnt ?_) | (with_reducible refine ifnf ?_) | (with_reducible refine x_eqB ?_) | (with_reducible refine x_neB ?_) | (with_reducible refine x_lssL ?_) | (with_reducible refine x_gtrL ?_) | (with_reducible refine x_geqL ?_) | (with_reducible refine s_neqL ?_) | (with_reducible refine St.load h ?_) | (with_reducible refine St.loadS h ?_) | (with_reducible refine a_fld0 ?_) | (with_reducible refine St.store h fun W h => ?_) | (with_reducible refine St.storeS h fun W h => ?_) | (with_reducible refine St.alloc h fun b W h => ?_) | (with_reducible refine St.allocS h fun b W h => ?_) | (with_reducible refine a_nil ?_) | (with_reducible refine ss_load ?_) | (with_reducible refine ss_loadS ?_) | (with_reducible refine ss_eqb ?_)))
  refine ifd (fun hc4 => ?_) fun hc4 => ?_
  · have e : addR (rwvs rs) low key (t, val, gone) = (12, rwvs rs) := by unfold addR; rw [if_neg e0, if_pos (.inr hc4)]
    have := kU W1 (by rw [e]) h.to
    rw [e] at this; exact this
  have e : addR (rwvs rs) low key (t, val, gone) = (0, putK key (chainR (rwvs rs) key ++ [(t, val, gone)]) (rwvs rs)) := by
    unfold addR; rw [if_neg e0, if_neg fun hx => hx.elim hc3 hc4]
  have hl1 := hb.1
  rw [rwLenvs] at hl1
  have hcl := hb.chain key
  refine a_nil (a_fld0 (w_ldR hr rfl ?_))
  refine mgetvs_spec (key := key) hm hcs (by omega) fun x bb W2 ox hb2 hs _ => ?_
  refine a_ext0 (a_ext1 ?_)
  replace h := (h.ext hb2).drew
  have hs := hs.below ((Below.refl _ _).drew)
  obtain ⟨b', mv', e', h⟩ := h.openVvs (v := (.pointer (some ⟨b, 0, none⟩) : Value))
  cases e'
  have hmv : mv' = mv := by
    have h1 := h.rc (b := b)
    have h2 := (hr.below hb2).below ((Below.refl _ _).drew)
    have := h1.symm.trans h2
    simp at this
    exact this
  subst hmv
  replace h : St w0 G (Ky b (Ob (.cells [mv', .int .i64 low].toArray 114 (0, 0))) :: Ky mv' (Mpvs (mpvs rs)) :: Ky b5 (Ob (.cells [.int .i64 t, Enc.enc val, .bool gone].toArray 58 (0, 0))) :: Ky PoolK.a (Plvs kp) :: R) W2.drew := h.to
  have fin : ∀ W v2, Cel1 v2 → St w0 G (Ky v2 (Ow 58 3 ((chainR (rwvs rs) key).length + 1) (chCvs (chainR (rwvs rs) key) ++ [.int .i64 t, Enc.enc val, .bool gone])) :: Ky b (Ob (.cells [mv', .int .i64 low].toArray 114 (0, 0))) :: Ky mv' (Mpvs (mpvs rs)) :: Ky b5 (Ob (.cells [.int .i64 t, Enc.enc val, .bool gone].toArray 58 (0, 0))) :: Ky PoolK.a (Plvs kp) :: R) W →
      CallF Try.prog 82 #[mv', strV key, v2] W fun _ W' => RR (.int .i64 0) W' := by
    intro W v2 o h
    refine putvs_spec (v := mv') h (k := key) (x := ⟨v2, o.one⟩) (by rw [mpLenvs]; omega) fun W h => ?_
    have h2 := h.kqAdd PoolK.a (v := v2) (f := verCvs) (xs := chainR (rwvs rs) key ++ [(t, val, gone)]) (by simp) (by rw [rc_append, rc_single]; rfl)
    have h3 := h2.shutVvs (b := b) (mv := mv') (rs := putK key (⟨v2, o.one⟩, chainR (rwvs rs) key ++ [(t, val, gone)]) rs) (mapV_put ..).symm
    have := k _ _ W (inPutvs (x := ⟨v2, o.one⟩) (c := chainR (rwvs rs) key ++ [(t, val, gone)]) hk) (fun z hz => List.mem_cons_of_mem _ hz) (by rw [e]; exact mapV_put ..) h3.to
    rw [e] at this
    exact this
  refine jni (fun vs W' => RR (.int .i64 0) W') (fun _ _ _ h => h) ?_
  refine ⟨St w0 G _, h, ?_⟩
  (repeat (first | (with_reducible refine ift ?_) | (with_reducible refine iff' ?_) | (with_reducible refine a_lss ?_) | (with_reducible refine a_leq ?_) | (with_reducible refine a_gtr ?_) | (with_reducible refine a_geq ?_) | (with_reducible refine w_eql ?_) | (with_reducible refine w_neq ?_) | (with_reducible refine s_eql ?_) | (with_reducible refine s_neq ?_) | ((with_reducible refine a_add64 ?h0 ?h1 ?_); (case h0 => omega); (case h1 => omega);  skip) | ((with_reducible refine a_sub64 ?h0 ?h1 ?_); (case h0 => omega); (case h1 => omega);  skip) | ((with_reducible refine a_mul64 ?h0 ?h1 ?_); (case h0 => omega); (case h1 => omega);  skip) | (with_reducible refine a_notd ?_) | (with_reducible refine a_not ?_) | (with_reducible refine a_ext0 ?_) | (with_reducible refine a_ext1 ?_) | (with_reducible refine a_ext2 ?_) | (with_reducible refine x_len ?_) | (with_reducible refine x_lens ?_) | (with_reducible refine x_eqb ?_) | (with_reducible refine x_neb ?_) | (with_reducible refine x_nilP ?_) | (with_reducible refine x_nilPn ?_) | (with_reducible refine x_nilF ?_) | (with_reducible refine x_nilFF ?_) | (with_reducible refine w_eqlL ?_) | (with_reducible refine w_neqL ?_) | (with_reducible refine s_eqlL ?_) | (with_reducible refine ifnt ?_) | (with_reducible refine ifnf ?_) | (with_reducible refine x_eqB ?_) | (with_reducible refine x_neB ?_) | (with_reducible refine x_lssL ?_) | (with_reducible refine x_gtrL ?_) | (with_reducible refine x_geqL ?_) | (with_reducible refine s_neqL ?_) | (with_reducible refine St.load h ?_) | (with_reducible refine St.loadS h ?_) | (with_reducible refine a_fld0 ?_) | (with_reducible refine St.store h fun W h => ?_) | (with_reducible refine St.storeS h fun W h => ?_) | (with_reducible refine St.alloc h fun b W h => ?_) | (with_reducible refine St.allocS h fun b W h => ?_) | (with_reducible refine a_nil ?_) | (with_reducible refine ss_load ?_) | (with_reducible refine ss_loadS ?_) | (with_reducible refine ss_eqb ?_)))
  refine ⟨?_, ?_, trivial⟩
  · refine vclonevs_spec hs rfl (by omega) fun v1 W3 o1 h3 => ?_
    replace h := h.frame1 h3
    refine ⟨h.to, ?_⟩
    refine h.lit (vs := [.agg [.int .i64 t, Enc.enc val, .bool gone].toArray]) (cs := [.int .i64 t, Enc.enc val, .bool gone]) (fun u W4 o2 h => ?_) (by decide)
    refine ⟨h.to, ?_⟩
    refine St.app (v := v1) h (h.osl (v := u)) (by simp [Enc.one, Value.oneCell']) (by unfold maxLen; omega) (by omega) fun v2 W5 o3 h _ => ?_
    refine ⟨h.to, ?_⟩
    exact fin W5 v2 o3 h.to
  · refine h.litB (vs := [.agg [.int .i64 t, Enc.enc val, .bool gone].toArray]) (cs := [.int .i64 t, Enc.enc val, .bool gone]) (fun u W4 o2 hb4 h => ?_) (by decide)
    refine ⟨h.to, ?_⟩
    refine vclonevs_spec (hs.below hb4) rfl (by omega) fun v1 W3 o1 h3 => ?_
    replace h := h.frame1 h3
    refine ⟨h.to, ?_⟩
    refine St.app (v := v1) h (h.osl (v := u)) (by simp [Enc.one, Value.oneCell']) (by unfold maxLen; omega) (by omega) fun v2 W5 o3 h _ => ?_
    refine ⟨h.to, ?_⟩
    exact fin W5 v2 o3 h.to

/-- Put -/
theorem vputvs_spec {n : Nat} {key : Txt} {t : Int} {val : Txt} [i : Has l PoolK.a (Plvs kp) R1] [j : Has R1 v (Vsvs rs low) R] (h : St w0 G l W) (hk : Invs kp rs) (hb : Bd n (rwvs rs)) (hn : n ≤ 500000)
    (k : ∀ kp' rs' W', Invs kp' rs' → (∀ z ∈ kp, z ∈ kp') → rwvs rs' = (addR (rwvs rs) low key (t, val, false)).2 → St w0 G (Ky v (Vsvs rs' low) :: Ky PoolK.a (Plvs kp') :: R) W' → RR (.int .i64 (addR (rwvs rs) low key (t, val, false)).1) W') :
    CallF Try.prog 29 #[v, .int .i64 t, strV key, Enc.enc val] W RR := by
  refine sh29_calls ?_
  unfold sh29
  refine x_bld (cells := (verCvs (t, val, false)).toArray) rfl ?_
  exact addsvs_spec h hk hb hn k
/-- Kill -/
theorem vkillvs_spec {n : Nat} {key : Txt} {t : Int} [i : Has l PoolK.a (Plvs kp) R1] [j : Has R1 v (Vsvs rs low) R] (h : St w0 G l W) (hk : Invs kp rs) (hb : Bd n (rwvs rs)) (hn : n ≤ 500000)
    (k : ∀ kp' rs' W', Invs kp' rs' → (∀ z ∈ kp, z ∈ kp') → rwvs rs' = (addR (rwvs rs) low key (t, default, true)).2 → St w0 G (Ky v (Vsvs rs' low) :: Ky PoolK.a (Plvs kp') :: R) W' → RR (.int .i64 (addR (rwvs rs) low key (t, default, true)).1) W') :
    CallF Try.prog 30 #[v, .int .i64 t, strV key] W RR := by
  refine sh30_calls ?_
  unfold sh30
  refine x_bld (cells := (verCvs (t, default, true)).toArray) rfl ?_
  exact addsvs_spec h hk hb hn k
end
end Go.Proofs.Ytffnabbchghokaa
