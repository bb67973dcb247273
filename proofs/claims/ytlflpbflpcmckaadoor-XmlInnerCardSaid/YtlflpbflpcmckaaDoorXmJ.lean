/-
  XML: what a prefix stands for (space), tells: what each answers.
-/
import Derived.Test.YtlflpbflpcmckaaDoorXmI
import Derived.Test.YtlflpbflpcmckaaDoorXmR
import Derived.Test.YtlflpbflpcmckaaDoorEzGs
import Derived.Test.YtlflpbflpcmckaaDoorEzIter
namespace Go.Ez.XRd
open Go Go.Ez
theorem near_app {k : Txt} : ∀ {a b : List XFr}, near k (a ++ b) = match near k a with | some s => some s | none => near k b
  | [], b => rfl
  | f :: a, b => by
    have ih := near_app (k := k) (a := a) (b := b)
    show (match lookS k f.spaces with | some s => some s | none => near k (a ++ b)) = (match (match lookS k f.spaces with | some s => some s | none => near k a) with | some s => some s | none => near k b)
    cases lookS k f.spaces with
    | some s => rfl
    | none => exact ih
theorem near_one {k : Txt} {f : XFr} : near k [f] = lookS k f.spaces := by
  unfold near
  cases lookS k f.spaces <;> rfl
end Go.Ez.XRd
namespace Go.Proofs.YtlflpbflpcmckaaDoor
open Go Go.Ez Go.RowKit Go.Lib
set_option linter.unusedSimpArgs false
set_option linter.unusedVariables false
instance (a : Option Nat) : Cel1 (.map a) := ⟨rfl⟩
/-- a frame's cells -/
abbrev fcell (p : XFr × Nat) : List Value := [strV p.1.pre, strV p.1.name, .map (some p.2)]
theorem fcell_len (p : XFr × Nat) : (fcell p).length = 3 := rfl
abbrev FrS (pv : List (XFr × Nat)) : Value → As := Ow 88 3 pv.length (rcells fcell pv)
/-- what slices.Backward tells -/
def backF (r : List (XFr × Nat)) : List (List Value) := (List.range r.length).map fun j => [nV .i64 (r.length - 1 - j), .agg (fcell (r.getD (r.length - 1 - j) default)).toArray]
theorem backF_get {r : List (XFr × Nat)} {j : Nat} (hj : j < r.length) {p : XFr × Nat} (hp : r[r.length - 1 - j]? = some p) : (backF r)[j]? = some [nV .i64 (r.length - 1 - j), .agg (fcell p).toArray] := by
  unfold backF
  rw [List.getElem?_map, List.getElem?_range hj]
  have : r.getD (r.length - 1 - j) default = p := by rw [List.getD_eq_getElem?_getD, hp]; rfl
  simp only [Option.map_some, this]
theorem backF_len (r : List (XFr × Nat)) : (backF r).length = r.length := by simp [backF]
theorem backF_rev {r : List (XFr × Nat)} {j : Nat} {x : List Value} (h : (backF r)[j]? = some x) : ∃ p, r.reverse[j]? = some p ∧ x = [nV .i64 (r.length - 1 - j), .agg (fcell p).toArray] := by
  have hj : j < r.length := by rw [← backF_len r]; exact (List.getElem?_eq_some_iff.1 h).1
  obtain ⟨p, hp⟩ : ∃ p, r[r.length - 1 - j]? = some p := ⟨_, List.getElem?_eq_getElem (by omega)⟩
  rw [backF_get hj hp] at h
  cases h
  exact ⟨p, by rw [List.getElem?_reverse hj]; exact hp, rfl⟩
abbrev ItF (b : Nat) (cl : Value) (r : List (XFr × Nat)) : Value → As := Two (Ky b (Ob (.cells [cl].toArray 62 (0, 0)))) (Ky cl (FrS r))
section
variable {w0 W W' : World} {G : Nat → Prop} {l R R1 R2 : List As} {RR : Value → World → Prop} {t s pre : Txt} {b g n mb : Nat} {r : XRd} {v vo vp vx vb : Value} {p : XPr} {f : XFr} {pv : List (XFr × Nat)} {ms : List (Nat × Fm)}
abbrev backFn (b : Nat) : Value := .func (.func 76) #[] #[.pointer (some ⟨b, 0, none⟩)]
theorem backF_itr {b : Nat} {cl : Value} {r : List (XFr × Nat)} (hl : r.length ≤ 1000000) : Itr Tryd.prog w0 G (backFn b) (backF r) (ItF b cl r) := by
  refine ⟨76, _, rfl, hent _ (by kernel_rfl), fun yv C D I W RR oy hY h hd hs => ?_⟩
  show CallF Tryd.prog 76 #[yv, .pointer (some ⟨b, 0, none⟩)] W RR
  refine sh76_calls ?_
  unfold sh76
  replace h := h.untwo (k := backFn b)
  refine h.load ?_
  refine x_lenS (h.osl (v := cl)) ?_
  refine a_sub64 (by omega) (by omega) ?_
  have back : ∀ (j : Nat) (E : Nat → As) (W : World), St w0 G (Ky j E :: Ky b (Ob (.cells [cl].toArray 62 (0, 0))) :: Ky cl (FrS r) :: I) W → St w0 G (Ky j E :: Ky (backFn b) (ItF b cl r) :: I) W := fun j E W h =>
    (St.two (k := backFn b) (a := b) (b := cl) h).to
  refine lpx (α := Nat) (fun i => [.int .i64 ((r.length : Int) - 1 - i)]) (fun i W => i ≤ r.length ∧ St w0 G (Ky i C :: Ky b (Ob (.cells [cl].toArray 62 (0, 0))) :: Ky cl (FrS r) :: I) W)
    (fun i => r.length - i) 0 (fun _ => rfl) (by simp) ⟨Nat.zero_le _, h.to⟩ ?_
  rintro next i W hnext ⟨hi, h⟩
  refine app1 ?_
  refine a_geq (ifd (fun hc => ?_) fun hc => ?_)
  · have hil : i < r.length := by omega
    have ei : (r.length : Int) - 1 - i = ((r.length - 1 - i : Nat) : Int) := by omega
    obtain ⟨p, hp⟩ : ∃ p, r[r.length - 1 - i]? = some p := ⟨_, List.getElem?_eq_getElem (by omega)⟩
    refine h.load ?_
    rw [ei]
    refine x_rcl fcell_len (h.osl (v := cl)) rfl hp ?_
    refine hY i _ (backF_get hil hp) (Ky b (Ob (.cells [cl].toArray 62 (0, 0))) :: Ky cl (FrS r) :: I) W _ h.to (fun W h => ?_) fun W h => ?_
    · refine a_not (iff' ?_)
      refine a_sub64 (by omega) (by omega) ?_
      rw [show (((r.length - 1 - i : Nat) : Int) - 1) = (r.length : Int) - 1 - ((i + 1 : Nat) : Int) by omega]
      exact ⟨rfl, rfl, hnext (i + 1) W (by omega) ⟨by omega, h.to⟩⟩
    · refine a_not (ift ?_)
      exact hs (i + 1) W (by rw [backF_len]; omega) (back _ _ W h.to)
  · have hil : i = r.length := by omega
    subst hil
    exact hd W (by rw [backF_len]; exact back _ _ W h.to)
theorem tells_spec (h : St w0 G l W) (k : ∀ W', St w0 G l W' → RR (.tuple #[strV (XRd.tells p).1, .bool (XRd.tells p).2]) W') : CallF Tryd.prog 57 #[.agg (prc p).toArray] W RR := by
  refine sh57_calls ?_
  unfold sh57
  unfold XRd.tells at k
  refine h.boxS fun b W h => ?_
  refine jni (fun vs W' => vs = [.pointer (some ⟨b, 0, none⟩)] ∧ ¬ (p.pre = [] ∧ p.name = XRd.told) ∧ St w0 G (Ky b (PrO p) :: l) W') ?_ ?_
  · rintro vs W _ ⟨rfl, hc, h⟩
    rw [if_neg hc] at k
    refine app1 ?_
    refine ⟨St w0 G _, h.drew, ?_⟩
    replace h := h.drew
    (repeat (first | (with_reducible refine ift ?_) | (with_reducible refine iff' ?_) | (with_reducible refine a_lss ?_) | (with_reducible refine a_leq ?_) | (with_reducible refine a_gtr ?_) | (with_reducible refine a_geq ?_) | (with_reducible refine w_eql ?_) | (with_reducible refine w_neq ?_) | (with_reducible refine s_eql ?_) | (with_reducible refine s_neq ?_) | ((with_reducible refine a_add64 ?h0 ?h1 ?_); (case h0 => omega); (case h1 => omega);  skip) | ((with_reducible refine a_sub64 ?h0 ?h1 ?_); (case h0 => omega); (case h1 => omega);  skip) | ((with_reducible refine a_mul64 ?h0 ?h1 ?_); (case h0 => omega); (case h1 => omega);  skip) | (with_reducible refine a_notd ?_) | (with_reducible refine a_not ?_) | (with_reducible refine a_ext0 ?_) | (with_reducible refine a_ext1 ?_) | (with_reducible refine a_ext2 ?_) | (with_reducible refine x_len ?_) | (with_reducible refine x_lens ?_) | (with_reducible refine x_eqb ?_) | (with_reducible refine x_neb ?_) | (with_reducible refine x_nilP ?_) | (with_reducible refine x_nilPn ?_) | (with_reducible refine x_nilF ?_) | (with_reducible refine x_nilFF ?_) | (with_reducible refine w_eqlL ?_) | (with_reducible refine w_neqL ?_) | (with_reducible refine s_eqlL ?_) | (with_reducible refine ifnt ?_) | (with_reducible refine ifnf ?_) | (with_reducible refine x_eqB ?_) | (with_reducible refine x_neB ?_) | (with_reducible refine x_lssL ?_) | (with_reducible refine x_gtrL ?_) | (with_reducible refine x_geqL ?_) | (with_reducible refine s_neqL ?_) | (with_reducible refine St.load h ?_) | (with_reducible refine St.loadS h ?_) | (with_reducible refine a_fld0 ?_) | (with_reducible refine St.store h fun W h => ?_) | (with_reducible refine St.storeS h fun W h => ?_) | (with_reducible refine St.alloc h fun b W h => ?_) | (with_reducible refine St.allocS h fun b W h => ?_) | (with_reducible refine a_nil ?_) | (with_reducible refine ss_load ?_) | (with_reducible refine ss_loadS ?_) | (with_reducible refine ss_eqb ?_)))
    exact k _ h.tail
  · (repeat (first | (with_reducible refine ift ?_) | (with_reducible refine iff' ?_) | (with_reducible refine a_lss ?_) | (with_reducible refine a_leq ?_) | (with_reducible refine a_gtr ?_) | (with_reducible refine a_geq ?_) | (with_reducible refine w_eql ?_) | (with_reducible refine w_neq ?_) | (with_reducible refine s_eql ?_) | (with_reducible refine s_neq ?_) | ((with_reducible refine a_add64 ?h0 ?h1 ?_); (case h0 => omega); (case h1 => omega);  skip) | ((with_reducible refine a_sub64 ?h0 ?h1 ?_); (case h0 => omega); (case h1 => omega);  skip) | ((with_reducible refine a_mul64 ?h0 ?h1 ?_); (case h0 => omega); (case h1 => omega);  skip) | (with_reducible refine a_notd ?_) | (with_reducible refine a_not ?_) | (with_reducible refine a_ext0 ?_) | (with_reducible refine a_ext1 ?_) | (with_reducible refine a_ext2 ?_) | (with_reducible refine x_len ?_) | (with_reducible refine x_lens ?_) | (with_reducible refine x_eqb ?_) | (with_reducible refine x_neb ?_) | (with_reducible refine x_nilP ?_) | (with_reducible refine x_nilPn ?_) | (with_reducible refine x_nilF ?_) | (with_reducible refine x_nilFF ?_) | (with_reducible refine w_eqlL ?_) | (with_reducible refine w_neqL ?_) | (with_reducible refine s_eqlL ?_) | (with_reducible refine ifnt ?_) | (with_reducible refine ifnf ?_) | (with_reducible refine x_eqB ?_) | (with_reducible refine x_neB ?_) | (with_reducible refine x_lssL ?_) | (with_reducible refine x_gtrL ?_) | (with_reducible refine x_geqL ?_) | (with_reducible refine s_neqL ?_) | (with_reducible refine St.load h ?_) | (with_reducible refine St.loadS h ?_) | (with_reducible refine a_fld0 ?_) | (with_reducible refine St.store h fun W h => ?_) | (with_reducible refine St.storeS h fun W h => ?_) | (with_reducible refine St.alloc h fun b W h => ?_) | (with_reducible refine St.allocS h fun b W h => ?_) | (with_reducible refine a_nil ?_) | (with_reducible refine ss_load ?_) | (with_reducible refine ss_loadS ?_) | (with_reducible refine ss_eqb ?_)))
    refine ifd (fun h1 => ?_) fun h1 => ?_
    · (repeat (first | (with_reducible refine ift ?_) | (with_reducible refine iff' ?_) | (with_reducible refine a_lss ?_) | (with_reducible refine a_leq ?_) | (with_reducible refine a_gtr ?_) | (with_reducible refine a_geq ?_) | (with_reducible refine w_eql ?_) | (with_reducible refine w_neq ?_) | (with_reducible refine s_eql ?_) | (with_reducible refine s_neq ?_) | ((with_reducible refine a_add64 ?h0 ?h1 ?_); (case h0 => omega); (case h1 => omega);  skip) | ((with_reducible refine a_sub64 ?h0 ?h1 ?_); (case h0 => omega); (case h1 => omega);  skip) | ((with_reducible refine a_mul64 ?h0 ?h1 ?_); (case h0 => omega); (case h1 => omega);  skip) | (with_reducible refine a_notd ?_) | (with_reducible refine a_not ?_) | (with_reducible refine a_ext0 ?_) | (with_reducible refine a_ext1 ?_) | (with_reducible refine a_ext2 ?_) | (with_reducible refine x_len ?_) | (with_reducible refine x_lens ?_) | (with_reducible refine x_eqb ?_) | (with_reducible refine x_neb ?_) | (with_reducible refine x_nilP ?_) | (with_reducible refine x_nilPn ?_) | (with_reducible refine x_nilF ?_) | (with_reducible refine x_nilFF ?_) | (with_reducible refine w_eqlL ?_) | (with_reducible refine w_neqL ?_) | (with_reducible refine s_eqlL ?_) | (with_reducible refine ifnt ?_) | (with_reducible refine ifnf ?_) | (with_reducible refine x_eqB ?_) | (with_reducible refine x_neB ?_) | (with_reducible refine x_lssL ?_) | (with_reducible refine x_gtrL ?_) | (with_reducible refine x_geqL ?_) | (with_reducible refine s_neqL ?_) | (with_reducible refine St.load h ?_) | (with_reducible refine St.loadS h ?_) | (with_reducible refine a_fld0 ?_) | (with_reducible refine St.store h fun W h => ?_) | (with_reducible refine St.storeS h fun W h => ?_) | (with_reducible refine St.alloc h fun b W h => ?_) | (with_reducible refine St.allocS h fun b W h => ?_) | (with_reducible refine a_nil ?_) | (with_reducible refine ss_load ?_) | (with_reducible refine ss_loadS ?_) | (with_reducible refine ss_eqb ?_)))
      refine ifd (fun h2 => ?_) fun h2 => ?_
      · rw [if_pos ⟨h1, h2⟩] at k
        exact k _ h.tail
      · exact ⟨rfl, fun hx => h2 hx.2, h⟩
    · exact ⟨rfl, fun hx => h1 hx.1, h⟩
/-- space -/
theorem space_spec [i1 : Has l b (Xo r (vo, vp, vx, vb)) R] [i2 : Has R vp (FrS pv) R1] [i3 : Has R1 PoolK.b (Km ms) R2] (h : St w0 G l W) (hpv : pv.map Prod.fst = r.op) (hl : pv.length ≤ 1000000) (hms : ∀ q ∈ pv, (q.2, q.1.spaces) ∈ ms) (hf : (mb, f.spaces) ∈ ms)
    (k : ∀ W', St w0 G (Ky b (Xo (XRd.space f pre r).2 (vo, vp, vx, vb)) :: Ky vp (FrS pv) :: Ky PoolK.b (Km ms) :: R2) W' → RR (strV (XRd.space f pre r).1) W') : CallF Tryd.prog 58 #[.pointer (some ⟨b, 0, none⟩), .agg (fcell (f, mb)).toArray, strV pre] W RR := by
  refine sh58_calls ?_
  unfold sh58
  replace h : St w0 G (Ky b (Xo r (vo, vp, vx, vb)) :: Ky vp (FrS pv) :: Ky PoolK.b (Km ms) :: R2) W := h.to
  unfold XRd.space at k
  have ovp : Cel1 vp := .of_own (h.ow (v := vp))
  refine h.boxS fun t4 W h => ?_
  refine h.boxV fun t5 W h => ?_
  refine h.alloc fun t6 W h => ?_
  refine h.load ?_
  refine w_eqlL (ifd (fun h1 => ?_) fun h1 => ?_)
  · rw [if_pos (show pre = XRd.own from h1)] at k
    refine h.store fun W h => ?_
    refine h.load ?_
    exact k _ h.to
  rw [if_neg (show ¬ pre = XRd.own from h1)] at k
  refine a_fld0 (h.load ?_)
  refine h.load ?_
  refine h.kmLook (k := PoolK.b) hf ?_
  refine a_ext0 (a_ext1 ?_)
  unfold gt
  cases hx : getS pre f.spaces with
  | some s =>
    rw [show XRd.lookS pre f.spaces = some s from hx] at k
    refine ift ?_
    refine h.store fun W h => ?_
    refine h.load ?_
    exact k _ h.to
  | none =>
    rw [show XRd.lookS pre f.spaces = none from hx] at k
    refine iff' ?_
    refine a_nil (a_fld0 (h.load ?_))
    refine sh70_calls ?_
    unfold sh70
    refine h.boxV fun bc W h => ?_
    refine v_func ?_
    have hI : Itr Tryd.prog w0 G (backFn bc) (backF pv) (ItF bc vp pv) := backF_itr hl
    replace h := h.two (k := backFn bc) (a := bc) (b := vp)
    have hop : r.op.reverse = pv.reverse.map Prod.fst := by rw [← hpv, List.map_reverse]
    refine rngI (C := fun i => As.all (XRd.near pre ((pv.reverse.take i).map Prod.fst) = none) [Ky t5 (Ob (.cells [strV pre].toArray 9 (0, 0))), Ky t6 (Ob (.cells [strV []].toArray 9 (0, 0))), Ky PoolK.b (Km ms)])
      (fun c i => As.ex fun s : Txt => As.all (c = .ret ∧ XRd.near pre r.op.reverse = some s) [Ky t5 (Ob (.cells [strV pre].toArray 9 (0, 0))), Ky t6 (Ob (.cells [strV s].toArray 9 (0, 0))), Ky PoolK.b (Km ms)]) hI (fun x hx => ?_)
      (l := Ky t4 (Ob (.cells (fcell (f, mb)).toArray 88 (0, 0))) :: Ky b (Xo r (vo, vp, vx, vb)) :: R2) ?_ ?_ ?_ ?_
    · obtain ⟨j, hj⟩ := List.getElem?_of_mem hx
      obtain ⟨p, _, rfl⟩ := backF_rev hj
      rfl
    · exact St.shut3 rfl h.to
    · intro i x hxi ll rec I' W kn kst h hn' hk
      obtain ⟨p, hp, rfl⟩ := backF_rev hxi
      refine app2 ?_
      refine h.allocS fun t10 W h => ?_
      refine h.storeS (cs' := fcell p) fun W h => ?_
      refine ⟨h.ob (b := ll), ?_⟩
      replace h := h.putO (b := ll) (o := .loop (rec .ready none)) (.loop (rec .busy none))
      replace h : St w0 G (Ky i (fun i => As.all (XRd.near pre ((pv.reverse.take i).map Prod.fst) = none) [Ky t5 (Ob (.cells [strV pre].toArray 9 (0, 0))), Ky t6 (Ob (.cells [strV []].toArray 9 (0, 0))), Ky PoolK.b (Km ms)]) :: Ky ll (Ob (.loop (rec .busy none))) :: Ky t10 (Ob (.cells (fcell p).toArray 88 (0, 0))) :: I') _ := h.to
      obtain ⟨hnear, h⟩ := St.open3 h
      refine app3 ?_
      refine a_fld0 (h.load ?_)
      refine h.load ?_
      have hpm : (p.2, p.1.spaces) ∈ ms := hms p (List.mem_reverse.1 (List.mem_of_getElem? hp))
      refine h.kmLook (k := PoolK.b) hpm ?_
      refine a_ext0 (a_ext1 ?_)
      unfold gt
      have htk : (pv.reverse.take (i + 1)).map Prod.fst = (pv.reverse.take i).map Prod.fst ++ [p.1] := by rw [List.take_add_one, hp]; simp
      cases hy : getS pre p.1.spaces with
      | some s =>
        dsimp only [Option.getD, Option.isSome]
        refine ift ?_
        refine h.store fun W h => ?_
        refine hk .ret W (St.swap (St.shutE s (St.shut3 ⟨rfl, ?_⟩ h.to)))
        have e1 : pv.reverse.map Prod.fst = (pv.reverse.take (i + 1)).map Prod.fst ++ (pv.reverse.drop (i + 1)).map Prod.fst := by rw [← List.map_append, List.take_append_drop]
        rw [hop, e1, htk, XRd.near_app, XRd.near_app, hnear, XRd.near_one]
        simp only
        rw [show XRd.lookS pre p.1.spaces = some s from hy]
      | none =>
        refine iff' ?_
        refine hn' _ (St.swap (St.shut3 ?_ h.to))
        show XRd.near pre ((pv.reverse.take (i + 1)).map Prod.fst) = none
        rw [htk, XRd.near_app, hnear, XRd.near_one]
        exact hy
    · intro DD W h
      replace h : St w0 G (Ky (backF pv).length (fun i => As.all (XRd.near pre ((pv.reverse.take i).map Prod.fst) = none) [Ky t5 (Ob (.cells [strV pre].toArray 9 (0, 0))), Ky t6 (Ob (.cells [strV []].toArray 9 (0, 0))), Ky PoolK.b (Km ms)]) :: Ky DD (Ob (.deferred (some []))) :: Ky (backFn bc) (ItF bc vp pv) :: Ky t4 (Ob (.cells (fcell (f, mb)).toArray 88 (0, 0))) :: Ky b (Xo r (vo, vp, vx, vb)) :: R2) W := h.swap
      obtain ⟨hnear, h⟩ := St.open3 h
      rw [backF_len, List.take_of_length_le (by simp), ← hop] at hnear
      rw [hnear] at k
      replace h := h.untwo (k := backFn bc)
      refine jni (fun vs W' => vs = [.pointer (some ⟨t6, 0, none⟩)] ∧ St w0 G (Ky b (Xo (r.failIf (decide (pre ≠ [])) 4) (vo, vp, vx, vb)) :: Ky t6 (Ob (.cells [strV []].toArray 9 (0, 0))) :: Ky DD (Ob (.deferred (some []))) :: Ky vp (FrS pv) :: Ky PoolK.b (Km ms) :: R2) W') ?_ ?_
      · rintro vs W _ ⟨rfl, h⟩
        refine app1 ?_
        refine h.store fun W h => ?_
        refine ⟨h.ob (b := DD), ?_⟩
        replace h := h.putO (b := DD) (o := .deferred (some [])) (.deferred none)
        refine h.load ?_
        exact k _ h.to
      · refine h.load ?_
        refine w_neqL (ifd (fun hne => ?_) fun hne => ?_)
        · refine fail_spec (r := r) (c := (vo, vp, vx, vb)) h fun W h => ⟨rfl, rfl, ?_⟩
          rw [decide_eq_true hne]
          show St w0 G (Ky b (Xo (r.fail 4) (vo, vp, vx, vb)) :: _) _
          exact h.to
        · refine ⟨rfl, rfl, ?_⟩
          rw [decide_eq_false hne]
          show St w0 G (Ky b (Xo r (vo, vp, vx, vb)) :: _) _
          exact h.to
    · intro DD c i W hi h
      replace h : St w0 G (As.ex (fun s : Txt => As.all (c = .ret ∧ XRd.near pre r.op.reverse = some s) [Ky t5 (Ob (.cells [strV pre].toArray 9 (0, 0))), Ky t6 (Ob (.cells [strV s].toArray 9 (0, 0))), Ky PoolK.b (Km ms)]) :: Ky DD (Ob (.deferred (some []))) :: Ky (backFn bc) (ItF bc vp pv) :: Ky t4 (Ob (.cells (fcell (f, mb)).toArray 88 (0, 0))) :: Ky b (Xo r (vo, vp, vx, vb)) :: R2) W := h.swap
      obtain ⟨s, h⟩ := St.openE h
      obtain ⟨⟨hcc, hnear⟩, h2⟩ := St.open3 h
      clear h
      subst hcc
      have h := h2
      clear h2
      rw [hnear] at k
      replace h := h.untwo (k := backFn bc)
      refine ⟨h.ob (b := DD), ?_⟩
      replace h := h.putO (b := DD) (o := .deferred (some [])) (.deferred none)
      refine h.load ?_
      exact k _ h.to
end
end Go.Proofs.YtlflpbflpcmckaaDoor
