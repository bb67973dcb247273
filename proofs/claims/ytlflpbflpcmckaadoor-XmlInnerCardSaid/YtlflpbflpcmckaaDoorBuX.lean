/-
  BUILDERS, as assertions: (*strings.Builder).WriteByte, .WriteString, .String; strings.IndexByte: what each answers.
-/
import Derived.Test.YtlflpbflpcmckaaDoorEzMk
import Derived.Test.YtlflpbflpcmckaaDoorEzIter
import Derived.Test.YtlflpbflpcmckaaDoorOmP
import Derived.Test.YtlflpbflpcmckaaDoorTy
import Derived.Test.YtlflpbflpcmckaaDoorSh
namespace Go.Proofs.YtlflpbflpcmckaaDoor
open Go Go.Ez Go.RowKit Go.Lib
set_option linter.unusedSimpArgs false
set_option linter.unusedVariables false
/-- a builder's two cells -/
abbrev BuC (b : Nat) (used : Bool) (v : Value) : List Value := [.pointer (if used then some ⟨b, 0, none⟩ else none), v]
/-- block b is a builder that holds these bytes -/
def Bu (l : Txt) (b : Nat) : As := As.ex fun x : Bool × Value => As.all (x.2.oneCell' = true) [Ky b (Ob (.cells (BuC b x.1 x.2).toArray 65 (0, 0))), Ky x.2 (Ow 5 1 l.length (bytesV l))]
section
variable {w0 W W' : World} {G : Nat → Prop} {l R : List As} {RR : Value → World → Prop} {t s : Txt} {c : UInt8} {b : Nat}
theorem buOpen [i : Has l b (Bu t) R] (h : St w0 G l W) : ∃ u v, Cel1 v ∧ St w0 G (Ky b (Ob (.cells (BuC b u v).toArray 65 (0, 0))) :: Ky v (Ow 5 1 t.length (bytesV t)) :: R) W := by
  obtain ⟨⟨u, v⟩, h⟩ := St.openE (St.at.1 (h.find (k := b) (X := Bu t)))
  obtain ⟨h1, h⟩ := St.openA h
  exact ⟨u, v, ⟨h1⟩, h⟩
theorem buShut {u : Bool} {v : Value} (o : Cel1 v) (h : St w0 G (Ky b (Ob (.cells (BuC b u v).toArray 65 (0, 0))) :: Ky v (Ow 5 1 t.length (bytesV t)) :: R) W) : St w0 G (Ky b (Bu t) :: R) W :=
  St.shutE (u, v) (St.shutA (L := [Ky b (Ob (.cells (BuC b u v).toArray 65 (0, 0))), Ky v (Ow 5 1 t.length (bytesV t))]) o.one h)
/-- a new one -/
theorem buNew (h : St w0 G (Ky b (Ob (.cells [.pointer none, .slice none 0 0].toArray 65 (0, 0))) :: l) W) : St w0 G (Ky b (Bu []) :: l) W :=
  buShut (u := false) (v := .slice none 0 0) (t := []) ⟨rfl⟩ h.nilOw.swap
theorem check_spec {u : Bool} {v : Value} [o : Cel1 v] [i : Has l b (Ob (.cells (BuC b u v).toArray 65 (0, 0))) R] (h : St w0 G l W)
    (k : ∀ W', St w0 G (Ky b (Ob (.cells (BuC b true v).toArray 65 (0, 0))) :: R) W' → RR (.tuple #[]) W') : CallF Tryd.prog 51 #[.pointer (some ⟨b, 0, none⟩)] W RR := by
  refine sh51_calls ?_
  unfold sh51
  obtain ⟨j, hj, hj2⟩ : ∃ j, Tryd.prog.info? 65 = some j ∧ j.size = 2 := ⟨Tryd.t65, by kernel_rfl, by kernel_rfl⟩
  have hjs : j.size ≠ 0 := by omega
  replace h := h.find (k := b) (X := Ob (.cells (BuC b u v).toArray 65 (0, 0)))
  have hsh : W.shape? b = some (65, 2) := by simp [World.shape?, show W.heap[b]? = _ from h.rc (b := b)]
  cases u
  · replace h : St w0 G (Ky b (Ob (.cells [.pointer none, v].toArray 65 (0, 0))) :: R) W := h
    refine a_nil (a_fld0 (h.load ?_))
    refine x_nilP ?_
    refine ift ?_
    refine RunV.of (run_to_unsafe W ⟨b, 0, none⟩ Tryd.underlying63 Tryd.underlying102 hj hjs hsh (Nat.zero_lt_succ 1)) ?_
    refine RunO.of (v := .pointer (some ⟨b, 0, none⟩)) (w' := W) ?_ ?_
    · rw [run_callFunc_extern Tryd.func62 (by kernel_rfl) (by kernel_rfl) (by kernel_rfl) (e := Extern.AbiNoEscape.same) (by kernel_rfl)]
      rfl
    refine RunV.of (run_from_unsafe W ⟨b, 0, none⟩ Tryd.underlying102 Tryd.underlying63 hj hsh (by kernel_rfl)) ?_
    refine a_nil (a_fld0 (h.store fun W' h => ?_))
    exact k W' h
  · replace h : St w0 G (Ky b (Ob (.cells [.pointer (some ⟨b, 0, none⟩), v].toArray 65 (0, 0))) :: R) W := h
    refine a_nil (a_fld0 (h.load ?_))
    refine x_nilP ?_
    refine iff' ?_
    refine a_nil (a_fld0 (h.load ?_))
    exact w_samePn Tryd.underlying63 hj (iff' (k W h))
/-- WriteString -/
theorem wstr_spec [i : Has l b (Bu t) R] (h : St w0 G l W) (hl : t.length + s.length ≤ 100000000000) (k : ∀ W', St w0 G (Ky b (Bu (t ++ s)) :: R) W' → RR (.tuple #[nV .i64 s.length, .nilIface]) W') : CallF Tryd.prog 33 #[.pointer (some ⟨b, 0, none⟩), strV s] W RR := by
  refine sh33_calls ?_
  unfold sh33
  obtain ⟨u, v, o, h⟩ := buOpen (b := b) (t := t) h
  refine check_spec (u := u) (v := v) h fun W h => ?_
  refine a_nil (a_fld0 (h.load ?_))
  refine h.appS (v := v) (by omega) fun v' W o' h => ?_
  refine a_nil (a_fld0 (h.store fun W h => ?_))
  rw [← bytesV_append, ← List.length_append] at h
  refine x_len ?_
  exact k W (buShut (u := true) o' h)
/-- String -/
theorem bstr_spec [i : Has l b (Bu t) R] (h : St w0 G l W) (hl : t.length ≤ 100000000000) (k : ∀ W', St w0 G R W' → RR (strV t) W') : CallF Tryd.prog 34 #[.pointer (some ⟨b, 0, none⟩)] W RR := by
  refine sh34_calls ?_
  unfold sh34
  obtain ⟨u, v, o, h⟩ := buOpen (b := b) (t := t) h
  refine ⟨St w0 G _, h.drew, ?_⟩
  replace h := h.drew
  refine a_nil (a_fld0 (ss_load ?_))
  refine a_nil (a_fld0 (ss_load ?_))
  refine x_lenSs (h.osl (v := v)) ?_
  have how := h.ow (v := v)
  have hf := (St.swap h).fact
  generalize W.drew = wd at *
  rcases how.2 with ⟨rfl, h0⟩ | ⟨g, cap, cur, rfl, hg, hh, hnc, hcm, hcs, htake⟩
  · have hl0 : t = [] := List.eq_nil_of_length_eq_zero h0
    subst hl0
    refine RunV.of (run_unsafeSliceData_nil wd _ _ _ _) ⟨h, ?_⟩
    exact RunV.of (run_unsafeString_none wd _ _ _ none) (k _ h.to)
  · by_cases hl0 : t = []
    · subst hl0
      by_cases hc0 : cap = 0
      · subst hc0
        have h' := h.ext (((Below.refl wd.heap.size wd).alloc (Nat.le_refl _) (.cells #[] 5)))
        refine RunV.of (run_unsafeSliceData_zero wd _ _ 5 Tryd.underlying92 ⟨g, 0, none⟩ _ (5, cur.size) (by simp [World.shape?, hh])) ⟨?_, ?_⟩
        · exact h.ext ((Below.refl wd.heap.size wd).alloc (Nat.le_refl _) _)
        · exact RunV.of (run_unsafeString_none _ _ _ _ _) (k _ (h.ext ((Below.refl wd.heap.size wd).alloc (Nat.le_refl _) _)).to)
      · refine RunV.of (run_unsafeSliceData_row wd _ _ ⟨g, 0, none⟩ _ _ hc0) ⟨h, ?_⟩
        exact RunV.of (run_unsafeString_none wd _ _ _ _) (k _ h.to)
    · have hpos : 0 < t.length := List.length_pos_iff.2 hl0
      refine RunV.of (run_unsafeSliceData_row wd _ _ ⟨g, 0, none⟩ _ _ (by omega)) ⟨h, ?_⟩
      refine RunV.of (run_unsafeString_row wd _ _ _ 5 Tryd.underlying92 (by kernel_rfl) g cur.size (by simp [World.shape?, hh]) t hl0 (by rw [hcs]; omega) (by omega) (fun j x hj => ?_)) (k _ ?_)
      · exact how.cells (g := g) rfl j (byteV x) (by rw [bytesV, List.getElem?_map, hj]; rfl)
      · have h2 := (St.swap h).upd (A' := emp) (W' := wd.freeze ⟨g, 0, none⟩ t.length) fun F hF => ⟨upd_freeze fun k hk => ?_, fun _ => False, fun _ h => h, fun _ h => h.elim⟩
        · exact h2.tail.tail
        · exact (hF.1 k).2 (by rw [hk]; rfl)
/-- the place of a byte in a text; -1: it is not there -/
theorem idxByte_spec (k : RR (.int .i64 (firstIdx ⟨t.toArray⟩ c)) W) : CallF Tryd.prog 53 #[strV t, byteV c] W RR := by
  refine sh53_calls ?_
  unfold sh53
  refine sh63_calls ?_
  unfold sh63
  refine RunO.of (v := .int .i64 (firstIdx ⟨t.toArray⟩ c)) (w' := W) ?_ k
  rw [run_callFunc_extern Tryd.func72 (by kernel_rfl) (by kernel_rfl) (by kernel_rfl) (e := Extern.BytealgIndexByte.indexByte) (by kernel_rfl)]
  unfold byteV
  rw [run_indexByte_string]
  have : ((c.toNat : Int)).toNat.toUInt8 = c := by simp
  rw [this]
  rfl
end
end Go.Proofs.YtlflpbflpcmckaaDoor
