/-
  BUILDERS: (*strings.Builder).WriteByte, .String; strings.IndexByte: what each answers.
-/
import Derived.Test.YtknbnfpdcbpoeaaEzStr
import Derived.Test.YtknbnfpdcbpoeaaFrmA
namespace Go.Proofs.Ytknbnfpdcbpoeaa
open Go Go.Ez Go.RowKit Go.Lib
set_option linter.unusedSimpArgs false
set_option linter.unusedVariables false

theorem copyCheck_spec {B b : Nat} {bs : List Value} {w : World} {R : Value → World → Prop} (hb : IsBuilder 82 5 B b bs w)
    (h : ∀ w', BuilderAt 82 5 B b (.pointer (some ⟨b, 0, none⟩)) bs w' → Below B w w' → w.heap.size ≤ w'.heap.size → R (.tuple #[]) w') :
    CallF Try.prog 56 #[.pointer (some ⟨b, 0, none⟩)] w R := by
  refine sh56_calls ?_
  unfold sh56
  obtain ⟨j, hj, hj2⟩ : ∃ j, Try.prog.info? 82 = some j ∧ j.size = 2 := ⟨Try.t82, by kernel_rfl, by kernel_rfl⟩
  have hjs : j.size ≠ 0 := by omega
  rcases hb with hb | hb
  · refine a_nil ?_
    refine a_field Try.underlying82 rfl Try.sizeOf80 (by decide) ?_
    refine w_load Try.isAgg80 hb.cell0 ?_
    refine w_nilP Try.underlying80 (ift ?_)
    refine RunV.of (run_to_unsafe w ⟨b, 0, none⟩ Try.underlying80 Try.underlying89 hj hjs hb.shape (Nat.zero_lt_succ 1)) ?_
    refine RunO.of (v := .pointer (some ⟨b, 0, none⟩)) (w' := w) ?_ ?_
    · rw [run_callFunc_extern Try.func58 (by kernel_rfl) (by kernel_rfl) (by kernel_rfl) (e := Extern.AbiNoEscape.same) (by kernel_rfl)]
      rfl
    refine RunV.of (run_from_unsafe w ⟨b, 0, none⟩ Try.underlying89 Try.underlying80 hj hb.shape (by kernel_rfl)) ?_
    refine a_nil ?_
    refine a_field Try.underlying82 rfl Try.sizeOf80 (by decide) ?_
    refine u_store Try.isAgg80 Try.sizeOf80 rfl hb.cell0 hb.frozen0 ?_
    exact h _ (hb.used _) ((Below.refl B w).setCell (p := ⟨b, 0, none⟩) hb.1 _) (by simp [World.setCell])
  · refine a_nil ?_
    refine a_field Try.underlying82 rfl Try.sizeOf80 (by decide) ?_
    refine w_load Try.isAgg80 hb.cell0 ?_
    refine w_nilP Try.underlying80 (iff' ?_)
    refine a_nil ?_
    refine a_field Try.underlying82 rfl Try.sizeOf80 (by decide) ?_
    refine w_load Try.isAgg80 hb.cell0 ?_
    exact w_samePn Try.underlying80 hj (iff' (h w hb (Below.refl _ _) (Nat.le_refl _)))

theorem writeByte_spec {B b : Nat} {l : List UInt8} {c : UInt8} {w : World} {R : Value → World → Prop} (hb : IsBuilder 82 5 B b (bytesV l) w) (hl : l.length ≤ 100000000000) (hB : B ≤ w.heap.size)
    (h : ∀ w', IsBuilder 82 5 B b (bytesV (l ++ [c])) w' → Below B w w' → w.heap.size ≤ w'.heap.size → R .nilIface w') :
    CallF Try.prog 50 #[.pointer (some ⟨b, 0, none⟩), byteV c] w R := by
  refine sh50_calls ?_
  unfold sh50
  refine copyCheck_spec hb fun w1 h1 m1 z1 => ?_
  obtain ⟨hBb, v, hv, hown, hne⟩ := h1
  refine a_nil ?_
  refine a_field Try.underlying82 rfl Try.sizeOf22 (by decide) ?_
  refine w_load Try.isAgg22 (v := v) (by rw [cell_of_heap hv]; rfl) ?_
  refine v_push elB hown rfl (by unfold maxLen; rw [bytesV_length]; omega) (by rw [bytesV_length]; omega) (by omega) fun v' w2 g1 g2 _ => ?_
  have hv2 : w2.heap[b]? = some (.cells #[.pointer (some ⟨b, 0, none⟩), v] 82 (0, 0)) := (Mod.of_grown g2).heap hv (fun hm => hne (mem_ownBlock.1 hm))
  refine a_nil ?_
  refine a_field Try.underlying82 rfl Try.sizeOf22 (by decide) ?_
  refine u_store Try.isAgg22 Try.sizeOf22 (one_slice (Sl.of_own g1)) (u := v) (by rw [cell_of_heap hv2]; rfl) (frozen_of_heap hv2 _) ?_
  have e : bytesV l ++ [byteV c] = bytesV (l ++ [c]) := by rw [bytesV_append]; rfl
  have e2 : (bytesV l).length + 1 = (bytesV (l ++ [c])).length := by rw [← e]; simp
  rw [e, e2] at g1
  refine h _ (Or.inr (BuilderAt.put hBb hv2 g1 (by decide))) ?_ ?_
  · exact (m1.trans (((Below.refl B w1).grown g2 (by omega) (own_base hown)))).setCell (p := ⟨b, 0 + 1, none⟩) hBb _
  · exact Nat.le_trans z1 (Nat.le_trans g2.size (by simp [World.setCell]))

theorem string_spec {B b : Nat} {l : List UInt8} {w : World} {R : Value → World → Prop} (hb : IsBuilder 82 5 B b (bytesV l) w) (hl : l.length ≤ 100000000000) (hB : B ≤ w.heap.size)
    (h : ∀ w', Below B w w' → R (.string ⟨l.toArray⟩) w') : CallF Try.prog 51 #[.pointer (some ⟨b, 0, none⟩)] w R := by
  refine sh51_calls ?_
  unfold sh51
  have hb' : ∃ p v, B ≤ b ∧ w.heap[b]? = some (.cells #[p, v] 82 (0, 0)) ∧ w.ownsRow B 5 1 v (bytesV l).length (bytesV l) ∧ v.ownBlock ≠ some b := by
    rcases hb with ⟨h1, v, h2, h3, h4⟩ | ⟨h1, v, h2, h3, h4⟩
    · exact ⟨_, v, h1, h2, h3, h4⟩
    · exact ⟨_, v, h1, h2, h3, h4⟩
  obtain ⟨p, v, hBb, hv, hown, hne⟩ := hb'
  rw [bytesV_length] at hown
  refine ⟨fun w' => w'.heap[b]? = some (.cells #[p, v] 82 (0, 0)), hv, ?_⟩
  refine a_nil ?_
  refine a_field Try.underlying82 rfl Try.sizeOf22 (by decide) ?_
  refine s_load Try.isAgg22 (v := v) (fun w' hw => by rw [cell_of_heap hw]; rfl) ?_
  refine a_nil ?_
  refine a_field Try.underlying82 rfl Try.sizeOf22 (by decide) ?_
  refine s_load Try.isAgg22 (v := v) (fun w' hw => by rw [cell_of_heap hw]; rfl) ?_
  refine s_lenS Try.underlying22 (Sl.of_own hown) ?_
  have hd := (Below.refl B w).drew
  have hownd := hown.drew
  have hsize : w.drew.heap.size = w.heap.size := rfl
  have hvd : w.drew.heap[b]? = some (.cells #[p, v] 82 (0, 0)) := hv
  generalize w.drew = wd at *
  rcases hownd.2 with ⟨rfl, h0⟩ | ⟨g, cap, cur, rfl, hg, hh, hnc, hcm, hcs, htake⟩
  · have hl0 : l = [] := List.eq_nil_of_length_eq_zero h0
    subst hl0
    refine RunV.of (run_unsafeSliceData_nil wd _ _ _ _) ⟨hvd, ?_⟩
    exact RunV.of (run_unsafeString_none wd _ _ _ none) (h _ hd)
  · by_cases hl0 : l = []
    · subst hl0
      by_cases hc0 : cap = 0
      · subst hc0
        refine RunV.of (run_unsafeSliceData_zero wd _ _ 5 Try.underlying88 ⟨g, 0, none⟩ _ (5, cur.size) (by simp [World.shape?, hh])) ⟨?_, ?_⟩
        · exact (Below.heap_alloc _ _ _ (by have := (Array.getElem?_eq_some_iff.1 hvd).1; omega)).trans hvd
        · exact RunV.of (run_unsafeString_none _ _ _ _ _) (h _ (hd.alloc (by omega) _))
      · refine RunV.of (run_unsafeSliceData_row wd _ _ ⟨g, 0, none⟩ _ _ hc0) ⟨hvd, ?_⟩
        exact RunV.of (run_unsafeString_none wd _ _ _ _) (h _ hd)
    · have hpos : 0 < l.length := List.length_pos_iff.2 hl0
      refine RunV.of (run_unsafeSliceData_row wd _ _ ⟨g, 0, none⟩ _ _ (by omega)) ⟨hvd, ?_⟩
      refine RunV.of (run_unsafeString_row wd _ _ _ 5 Try.underlying88 (by kernel_rfl) g cur.size (by simp [World.shape?, hh]) l hl0 (by rw [hcs]; omega) (by omega) (fun j x hj => ?_)) (h _ (below_freeze hd hg _))
      have := hownd.cells (g := g) rfl j (byteV x) (by rw [bytesV, List.getElem?_map, hj]; rfl)
      exact this

/-- the place of a byte in a text; -1: it is not there -/
theorem indexByte_spec {l : List UInt8} {c : UInt8} {w : World} {R : Value → World → Prop} (h : R (.int .i64 (firstIdx ⟨l.toArray⟩ c)) w) : CallF Try.prog 53 #[.string ⟨l.toArray⟩, byteV c] w R := by
  refine sh53_calls ?_
  unfold sh53
  refine sh57_calls ?_
  unfold sh57
  refine RunO.of (v := .int .i64 (firstIdx ⟨l.toArray⟩ c)) (w' := w) ?_ h
  rw [run_callFunc_extern Try.func59 (by kernel_rfl) (by kernel_rfl) (by kernel_rfl) (e := Extern.BytealgIndexByte.indexByte) (by kernel_rfl)]
  unfold byteV
  rw [run_indexByte_string]
  have : ((c.toNat : Int)).toNat.toUInt8 = c := by simp
  rw [this]
  rfl

end Go.Proofs.Ytknbnfpdcbpoeaa
