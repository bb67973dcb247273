/-
  XML: the reader's block; the builder that lies within it: WriteString, String, Reset.
-/
import Derived.Test.YtlflpbflpcmckaaDoorXmQ
import Derived.Test.YtlflpbflpcmckaaDoorBuX
import Derived.Test.YtlflpbflpcmckaaDoorSh
namespace Go.Proofs.YtlflpbflpcmckaaDoor
open Go Go.Ez Go.RowKit Go.Lib
set_option linter.unusedSimpArgs false
set_option linter.unusedVariables false
/-- what the reader's block holds beside the text, the place, the error: tokens, open elements, the builder's two -/
abbrev XC := Value × Value × Value × Value
abbrev xcells (r : XRd) (c : XC) : List Value := [strV r.s, nV .i64 r.at_, .int .i64 r.e, c.1, c.2.1, c.2.2.1, c.2.2.2]
abbrev Xo (r : XRd) (c : XC) : Nat → As := Ob (.cells (xcells r c).toArray 67 (0, 0))
abbrev xp (b : Nat) (u : Bool) : Value := .pointer (if u then some ⟨b, 5, none⟩ else none)
section
variable {w0 W W' : World} {G : Nat → Prop} {l R R1 : List As} {RR : Value → World → Prop} {t s : Txt} {c : XC} {b n : Nat} {r : XRd} {v vo vp : Value} {u : Bool}
theorem xcheck_spec [o : Cel1 v] [i : Has l b (Xo r (vo, vp, xp b u, v)) R] (h : St w0 G l W) (k : ∀ W', St w0 G (Ky b (Xo r (vo, vp, xp b true, v)) :: R) W' → RR (.tuple #[]) W') : CallF Tryd.prog 51 #[.pointer (some ⟨b, 5, none⟩)] W RR := by
  refine sh51_calls ?_
  unfold sh51
  obtain ⟨j, hj, hj2⟩ : ∃ j, Tryd.prog.info? 65 = some j ∧ j.size = 2 := ⟨Tryd.t65, by kernel_rfl, by kernel_rfl⟩
  have hjs : j.size ≠ 0 := by omega
  replace h := h.find (k := b) (X := Xo r (vo, vp, xp b u, v))
  have hsh : W.shape? b = some (67, 7) := by simp [World.shape?, show W.heap[b]? = _ from h.rc (b := b)]
  cases u
  · replace h : St w0 G (Ky b (Ob (.cells [strV r.s, nV .i64 r.at_, .int .i64 r.e, vo, vp, .pointer none, v].toArray 67 (0, 0))) :: R) W := h
    refine a_nil (a_fld (o := 5) ?_)
    dsimp only [Nat.reduceAdd]
    refine h.load ?_
    refine x_nilP ?_
    refine ift ?_
    refine RunV.of (run_to_unsafe W ⟨b, 5, none⟩ Tryd.underlying63 Tryd.underlying102 hj hjs hsh (show 5 < 7 by decide)) ?_
    refine RunO.of (v := .pointer (some ⟨b, 5, none⟩)) (w' := W) ?_ ?_
    · rw [run_callFunc_extern Tryd.func62 (by kernel_rfl) (by kernel_rfl) (by kernel_rfl) (e := Extern.AbiNoEscape.same) (by kernel_rfl)]
      rfl
    refine RunV.of (run_from_unsafe W ⟨b, 5, none⟩ Tryd.underlying102 Tryd.underlying63 hj hsh (by kernel_rfl)) ?_
    refine a_nil (a_fld (o := 5) ?_)
    dsimp only [Nat.reduceAdd]
    refine h.store fun W' h => ?_
    exact k W' h
  · replace h : St w0 G (Ky b (Ob (.cells [strV r.s, nV .i64 r.at_, .int .i64 r.e, vo, vp, .pointer (some ⟨b, 5, none⟩), v].toArray 67 (0, 0))) :: R) W := h
    refine a_nil (a_fld (o := 5) ?_)
    dsimp only [Nat.reduceAdd]
    refine h.load ?_
    refine x_nilP ?_
    refine iff' ?_
    refine a_nil (a_fld (o := 5) ?_)
    dsimp only [Nat.reduceAdd]
    refine h.load ?_
    exact w_samePn Tryd.underlying63 hj (iff' (k W h))
/-- WriteString -/
theorem xwstr_spec [o : Cel1 v] [i : Has l b (Xo r (vo, vp, xp b u, v)) R1] [i2 : Has R1 v (Ow 5 1 t.length (bytesV t)) R] (h : St w0 G l W) (hl : t.length + s.length ≤ 100000000000)
    (k : ∀ v' W', Cel1 v' → St w0 G (Ky b (Xo r (vo, vp, xp b true, v')) :: Ky v' (Ow 5 1 (t ++ s).length (bytesV (t ++ s))) :: R) W' → RR (.tuple #[nV .i64 s.length, .nilIface]) W') : CallF Tryd.prog 33 #[.pointer (some ⟨b, 5, none⟩), strV s] W RR := by
  refine sh33_calls ?_
  unfold sh33
  refine xcheck_spec (b := b) (u := u) (v := v) (r := r) (vo := vo) (vp := vp) h fun W h => ?_
  refine a_nil (a_fld (o := 5) ?_)
  dsimp only [Nat.reduceAdd]
  refine h.load ?_
  refine h.appS (v := v) (by omega) fun v' W o' h => ?_
  refine a_nil (a_fld (o := 5) ?_)
  dsimp only [Nat.reduceAdd]
  refine h.store fun W h => ?_
  rw [← bytesV_append, ← List.length_append] at h
  refine x_len ?_
  exact k v' W o' h
/-- String -/
theorem xbstr_spec [o : Cel1 v] [i : Has l b (Xo r (vo, vp, xp b u, v)) R1] [i2 : Has R1 v (Ow 5 1 t.length (bytesV t)) R] (h : St w0 G l W) (hl : t.length ≤ 100000000000) (k : ∀ W', St w0 G (Ky b (Xo r (vo, vp, xp b u, v)) :: R) W' → RR (strV t) W') : CallF Tryd.prog 34 #[.pointer (some ⟨b, 5, none⟩)] W RR := by
  refine sh34_calls ?_
  unfold sh34
  replace h : St w0 G (Ky b (Xo r (vo, vp, xp b u, v)) :: Ky v (Ow 5 1 t.length (bytesV t)) :: R) W := h.to
  refine ⟨St w0 G _, h.drew, ?_⟩
  replace h := h.drew
  refine a_nil (a_fld (o := 5) ?_)
  dsimp only [Nat.reduceAdd]
  refine ss_load ?_
  refine a_nil (a_fld (o := 5) ?_)
  dsimp only [Nat.reduceAdd]
  refine ss_load ?_
  refine x_lenSs (h.osl (v := v)) ?_
  have how := h.ow (v := v)
  have hf := (St.swap h).fact
  generalize W.drew = wd at *
  rcases how.2 with ⟨rfl, h0⟩ | ⟨g, cap, cur, rfl, hg, hh, hnc, hcm, hcs, htake⟩
  · have hl0 : t = [] := List.eq_nil_of_length_eq_zero h0
    subst hl0
    refine RunV.of (run_unsafeSliceData_nil wd _ _ _ _) ⟨h, ?_⟩
    exact RunV.of (run_unsafeString_none wd _ _ _ none) (k _ h.to)
  · by_cases hl0 : t = []
    · subst hl0
      by_cases hc0 : cap = 0
      · subst hc0
        refine RunV.of (run_unsafeSliceData_zero wd _ _ 5 Tryd.underlying92 ⟨g, 0, none⟩ _ (5, cur.size) (by simp [World.shape?, hh])) ⟨?_, ?_⟩
        · exact h.ext ((Below.refl wd.heap.size wd).alloc (Nat.le_refl _) _)
        · exact RunV.of (run_unsafeString_none _ _ _ _ _) (k _ (h.ext ((Below.refl wd.heap.size wd).alloc (Nat.le_refl _) _)).to)
      · refine RunV.of (run_unsafeSliceData_row wd _ _ ⟨g, 0, none⟩ _ _ hc0) ⟨h, ?_⟩
        exact RunV.of (run_unsafeString_none wd _ _ _ _) (k _ h.to)
    · have hpos : 0 < t.length := List.length_pos_iff.2 hl0
      refine RunV.of (run_unsafeSliceData_row wd _ _ ⟨g, 0, none⟩ _ _ (by omega)) ⟨h, ?_⟩
      refine RunV.of (run_unsafeString_row wd _ _ _ 5 Tryd.underlying92 (by kernel_rfl) g cur.size (by simp [World.shape?, hh]) t hl0 (by rw [hcs]; omega) (by omega) (fun j x hj => ?_)) (k _ ?_)
      · exact how.cells (g := g) rfl j (byteV x) (by rw [bytesV, List.getElem?_map, hj]; rfl)
      · have h2 := (St.swap h).upd (A' := emp) (W' := wd.freeze ⟨g, 0, none⟩ t.length) fun F hF => ⟨upd_freeze fun k hk => ?_, fun _ => False, fun _ h => h, fun _ h => h.elim⟩
        · exact h2.tail
        · exact (hF.1 k).2 (by rw [hk]; rfl)
/-- Reset -/
theorem xreset_spec [i : Has l b (Xo r (vo, vp, xp b u, v)) R] (h : St w0 G l W) (k : ∀ W', St w0 G (Ky b (Xo r (vo, vp, xp b false, .slice none 0 0)) :: R) W' → RR (.tuple #[]) W') : CallF Tryd.prog 60 #[.pointer (some ⟨b, 5, none⟩)] W RR := by
  refine sh60_calls ?_
  unfold sh60
  replace h := h.find (k := b) (X := Xo r (vo, vp, xp b u, v))
  refine a_nil (a_fld (o := 5) ?_)
  dsimp only [Nat.reduceAdd]
  refine h.store fun W h => ?_
  refine a_nil (a_fld (o := 5) ?_)
  dsimp only [Nat.reduceAdd]
  refine h.store fun W h => ?_
  exact k W h
end
end Go.Proofs.YtlflpbflpcmckaaDoor
