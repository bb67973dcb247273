/-
  DIFFERENCES: the document's own, of two lists of pairs: what it answers.
-/
import Derived.Test.YtdjgchofnkancaaDfR
namespace Go.Ez
open Go Go.Proofs.Ytdjgchofnkancaa
set_option linter.unusedSimpArgs false
set_option linter.unusedVariables false

/-- the document's difference -/
def rdf : List (Txt × Txt) → List (Txt × Txt) → List Ch
  | [], [] => []
  | x :: xs, [] => (x.1, [], true) :: rdf xs []
  | [], y :: ys => (y.1, y.2, false) :: rdf [] ys
  | x :: xs, y :: ys => if OKey.lt x.1 y.1 then (x.1, [], true) :: rdf xs (y :: ys) else if OKey.lt y.1 x.1 then (y.1, y.2, false) :: rdf (x :: xs) ys else (if x.2 ≠ y.2 then [(y.1, y.2, false)] else []) ++ rdf xs ys
termination_by xs ys => xs.length + ys.length
theorem rdf_x {x : Txt × Txt} {xs ys : List (Txt × Txt)} (h : ys = [] ∨ ∃ y t, ys = y :: t ∧ OKey.lt x.1 y.1 = true) : rdf (x :: xs) ys = (x.1, [], true) :: rdf xs ys := by
  rcases h with rfl | ⟨y, t, rfl, h⟩
  · rw [rdf]
  · rw [rdf, if_pos h]
theorem rdf_y {y : Txt × Txt} {xs ys : List (Txt × Txt)} (h : xs = [] ∨ ∃ x t, xs = x :: t ∧ OKey.lt x.1 y.1 = false ∧ OKey.lt y.1 x.1 = true) : rdf xs (y :: ys) = (y.1, y.2, false) :: rdf xs ys := by
  rcases h with rfl | ⟨x, t, rfl, h1, h2⟩
  · rw [rdf]
  · rw [rdf, if_neg (by rw [h1]; simp), if_pos h2]
theorem rdf_b {x y : Txt × Txt} {xs ys : List (Txt × Txt)} (h1 : OKey.lt x.1 y.1 = false) (h2 : OKey.lt y.1 x.1 = false) : rdf (x :: xs) (y :: ys) = (if x.2 ≠ y.2 then [(y.1, y.2, false)] else []) ++ rdf xs ys := by
  rw [rdf, if_neg (by rw [h1]; simp), if_neg (by rw [h2]; simp)]
theorem fm_congr {α γ : Type} {q q' : α → Option γ} : ∀ {l : List α}, (∀ a ∈ l, q a = q' a) → l.filterMap q = l.filterMap q'
  | [], _ => rfl
  | a :: l, h => by
    have ih := fm_congr (l := l) fun b hb => h b (List.mem_cons_of_mem _ hb)
    simp only [List.filterMap_cons, h a List.mem_cons_self, ih]
theorem fm1 {a b : List (Txt × Txt)} {p : Txt × Txt} {l : List (Txt × Txt)} {d : Ch} (h : ch1 a b p.1 = some d) : ((p :: l).filterMap fun p => ch1 a b p.1) = d :: l.filterMap fun p => ch1 a b p.1 := by simp only [List.filterMap_cons, h]
theorem fm0 {a b : List (Txt × Txt)} {p : Txt × Txt} {l : List (Txt × Txt)} (h : ch1 a b p.1 = none) : ((p :: l).filterMap fun p => ch1 a b p.1) = l.filterMap fun p => ch1 a b p.1 := by simp only [List.filterMap_cons, h]
theorem getK_skip {x : Txt × Txt} {xs : List (Txt × Txt)} {k : Txt} (h : x.1 ≠ k) : getK k (x :: xs) = getK k xs := by
  simp [getK, h]
theorem srt_low {x : Txt × Txt} {xs : List (Txt × Txt)} (h : Srt (x :: xs)) : ∀ p ∈ xs, OKey.lt x.1 p.1 = true := (List.pairwise_cons.1 h).1
theorem getK_low {k : Txt} {ys : List (Txt × Txt)} (h : ∀ p ∈ ys, OKey.lt k p.1 = true) : getK k ys = none := by
  cases hg : getK k ys with
  | none => rfl
  | some v =>
    have := h _ (getK_mem hg)
    rw [OKey.irr] at this; cases this
theorem ne_low {k : Txt} {p : Txt × Txt} (h : OKey.lt k p.1 = true) : k ≠ p.1 := fun e => by rw [e, OKey.irr] at h; cases h
theorem rdf_dff : ∀ {a b : List (Txt × Txt)}, Srt a → Srt b → rdf a b = dff a b
  | [], [], _, _ => by simp [rdf, dff, mrg]
  | x :: xs, [], ha, hb => by
    have ih := rdf_dff (a := xs) (b := []) (List.pairwise_cons.1 ha).2 hb
    have hlow := srt_low ha
    rw [rdf_x (.inl rfl), ih]
    unfold dff
    rw [mrg_nil, mrg_nil]
    have e : ch1 (x :: xs) [] x.1 = some (x.1, [], true) := by simp [ch1, chg, getK]; rfl
    rw [fm1 e]
    congr 1
    refine fm_congr fun p hp => ?_
    unfold ch1
    rw [getK_skip (ne_low (hlow p hp))]
  | [], y :: ys, ha, hb => by
    have ih := rdf_dff (a := []) (b := ys) ha (List.pairwise_cons.1 hb).2
    have hlow := srt_low hb
    rw [rdf_y (.inl rfl), ih]
    unfold dff
    rw [mrg_y (.inl rfl)]
    have e : ch1 [] (y :: ys) y.1 = some (y.1, y.2, false) := by simp [ch1, chg, getK]
    rw [fm1 e]
    congr 1
    refine fm_congr fun p hp => ?_
    have hp' : p ∈ ys := by simpa [mrg] using hp
    unfold ch1
    rw [getK_skip (ne_low (hlow p hp'))]
  | x :: xs, y :: ys, ha, hb => by
    have hla := srt_low ha
    have hlb := srt_low hb
    have ha' := (List.pairwise_cons.1 ha).2
    have hb' := (List.pairwise_cons.1 hb).2
    cases h1 : OKey.lt x.1 y.1
    · cases h2 : OKey.lt y.1 x.1
      · have hxy : x.1 = y.1 := OKey.tot h1 h2
        have ih := rdf_dff (a := xs) (b := ys) ha' hb'
        rw [rdf_b h1 h2, ih]
        unfold dff
        rw [mrg_b hxy]
        have tail : ((mrg xs ys).filterMap fun p => ch1 (x :: xs) (y :: ys) p.1) = (mrg xs ys).filterMap fun p => ch1 xs ys p.1 := by
          refine fm_congr fun p hp => ?_
          have hlt : OKey.lt y.1 p.1 = true := by
            rcases mrg_mem hp with hp | hp
            · rw [← hxy]; exact hla p hp
            · exact hlb p hp
          unfold ch1
          rw [getK_skip (ne_low hlt), getK_skip (by rw [hxy]; exact ne_low hlt)]
        by_cases hv : x.2 = y.2
        · have e : ch1 (x :: xs) (y :: ys) y.1 = none := by simp [ch1, chg, getK, hxy, hv]
          rw [fm0 e, if_neg (fun h => h hv), tail]; rfl
        · have e : ch1 (x :: xs) (y :: ys) y.1 = some (y.1, y.2, false) := by simp [ch1, chg, getK, hxy, hv]
          rw [fm1 e, if_pos hv, tail]; rfl
      · have ih := rdf_dff (a := x :: xs) (b := ys) ha hb'
        rw [rdf_y (.inr ⟨x, xs, rfl, h1, h2⟩), ih]
        unfold dff
        have hne : x.1 ≠ y.1 := fun e => by rw [e, OKey.irr] at h2; cases h2
        rw [mrg_y (.inr ⟨x, xs, rfl, h1, hne⟩)]
        have hall : ∀ p ∈ x :: xs, OKey.lt y.1 p.1 = true := fun p hp => by
          rcases List.mem_cons.1 hp with rfl | hp
          · exact h2
          · exact OKey.tr h2 (hla p hp)
        have e : ch1 (x :: xs) (y :: ys) y.1 = some (y.1, y.2, false) := by
          unfold ch1
          rw [getK_low hall]
          simp [chg, getK]
        rw [fm1 e]
        congr 1
        refine fm_congr fun p hp => ?_
        have hlt : OKey.lt y.1 p.1 = true := by
          rcases mrg_mem hp with hp | hp
          · exact hall p hp
          · exact hlb p hp
        unfold ch1
        rw [getK_skip (x := y) (ne_low hlt)]
    · have ih := rdf_dff (a := xs) (b := y :: ys) ha' hb
      rw [rdf_x (.inr ⟨y, ys, rfl, h1⟩), ih]
      unfold dff
      rw [mrg_x (.inr ⟨y, ys, rfl, h1⟩)]
      have hall : ∀ p ∈ y :: ys, OKey.lt x.1 p.1 = true := fun p hp => by
        rcases List.mem_cons.1 hp with rfl | hp
        · exact h1
        · exact OKey.tr h1 (hlb p hp)
      have e : ch1 (x :: xs) (y :: ys) x.1 = some (x.1, [], true) := by
        unfold ch1
        rw [getK_low hall]
        simp [chg, getK]; rfl
      rw [fm1 e]
      congr 1
      refine fm_congr fun p hp => ?_
      have hlt : OKey.lt x.1 p.1 = true := by
        rcases mrg_mem hp with hp | hp
        · exact hla p hp
        · exact hall p hp
      unfold ch1
      rw [getK_skip (x := x) (ne_low hlt)]
termination_by a b => a.length + b.length
theorem rdf_len : ∀ (xs ys : List (Txt × Txt)), (rdf xs ys).length ≤ xs.length + ys.length
  | [], [] => by simp [rdf]
  | x :: xs, [] => by
    have := rdf_len xs []
    rw [rdf_x (.inl rfl), List.length_cons, List.length_cons]; simp only [List.length_nil] at this ⊢; omega
  | [], y :: ys => by
    have := rdf_len [] ys
    rw [rdf_y (.inl rfl), List.length_cons, List.length_cons]; simp only [List.length_nil] at this ⊢; omega
  | x :: xs, y :: ys => by
    unfold rdf
    have h1 := rdf_len xs (y :: ys)
    have h2 := rdf_len (x :: xs) ys
    have h3 := rdf_len xs ys
    simp only [List.length_cons] at h1 h2 h3 ⊢
    split
    · rw [List.length_cons]; omega
    · split
      · rw [List.length_cons]; omega
      · rw [List.length_append]
        split <;> simp only [List.length_cons, List.length_nil] <;> omega
termination_by xs ys => xs.length + ys.length
end Go.Ez

namespace Go.Proofs.Ytdjgchofnkancaa
open Go Go.Ez Go.RowKit
section
variable {W : World} {RR : Value → World → Prop}
/-- hblref20.Diff -/
theorem rdiff_spec {a b : List (Txt × Txt)} {va vb : Value} {n1 n2 : Nat} (ha : Sl W 2 va n1 (pcells a)) (hn1 : n1 = a.length) (hb : Sl W 2 vb n2 (pcells b)) (hn2 : n2 = b.length) (hla : a.length ≤ 1000) (hlb : b.length ≤ 1000)
    (k : ∀ v' W', Cel1 v' → St W G0 [Ky v' (Ow 102 3 (rdf a b).length (ccells (rdf a b)))] W' → RR v' W') : CallF Try.prog 64 #[va, vb] W RR := by
  refine sh64_calls ?_
  unfold sh64
  subst hn1 hn2
  have hrl := rdf_len a b
  have h : St W G0 [Ky (.slice none 0 0 : Value) (Ow 102 3 0 (ccells []))] W := (St.start W).nilOw
  refine lpx (α := Value × Nat × Nat) (fun x => [x.1, nV .i64 x.2.1, nV .i64 x.2.2]) (fun x W' => x.2.1 ≤ a.length ∧ x.2.2 ≤ b.length ∧ ∃ out, out ++ rdf (a.drop x.2.1) (b.drop x.2.2) = rdf a b ∧ St W G0 [Ky x.1 (Ow 102 3 out.length (ccells out))] W') (fun x => a.length + b.length - (x.2.1 + x.2.2)) (.slice none 0 0, 0, 0) (fun _ => rfl) rfl ⟨Nat.zero_le _, Nat.zero_le _, [], rfl, h⟩ ?_
  clear h
  rintro next ⟨t, i, j⟩ W' hnext ⟨hi, hj, out, hout, h⟩
  simp only at hi hj hout h hnext ⊢
  refine app3 ?_
  have hol : out.length ≤ (rdf a b).length := by rw [← hout, List.length_append]; omega
  have fail : i < a.length ∨ j < b.length → True := fun _ => trivial
  refine jni (fun vs W' => vs = [va, vb, t, nV .i64 i, nV .i64 j] ∧ (i < a.length ∨ j < b.length) ∧ St W G0 [Ky t (Ow 102 3 out.length (ccells out))] W') ?_ ?_
  rotate_left
  · refine x_lenS (h.sl0 ha) ?_
    refine a_lss (ifd (fun hc => ⟨rfl, .inl (by omega), h⟩) fun hc => ?_)
    refine x_lenS (h.sl0 hb) ?_
    refine a_lss (ifd (fun hc2 => ⟨rfl, .inr (by omega), h⟩) fun hc2 => ?_)
    have e1 : a.drop i = [] := List.drop_of_length_le (by omega)
    have e2 : b.drop j = [] := List.drop_of_length_le (by omega)
    rw [e1, e2, show rdf [] [] = [] by simp [rdf], List.append_nil] at hout
    subst hout
    have ot : Cel1 t := .of_own (h.ow (v := t))
    exact k t W' ot h
  clear h
  rintro vs W' _ ⟨rfl, hij, h⟩
  refine app5 ?_
  refine jni (fun vs W' => ∃ tb, vs = [va, vb, t, nV .i64 i, nV .i64 j, .bool tb] ∧ (tb = true → ∃ x, a[i]? = some x ∧ (b.drop j = [] ∨ ∃ y s, b.drop j = y :: s ∧ OKey.lt x.1 y.1 = true)) ∧ (tb = false → ∃ y, b[j]? = some y ∧ (a.drop i = [] ∨ ∃ x s, a.drop i = x :: s ∧ OKey.lt x.1 y.1 = false)) ∧ St W G0 [Ky t (Ow 102 3 out.length (ccells out))] W') ?_ ?_
  rotate_left
  · refine ⟨fun W2 => W2 = _, rfl, ?_⟩
    replace h := h.drew
    refine x_lenSs (h.sl0 hb) ?_
    refine s_eql (ifd (fun hc => ?_) fun hc => ?_)
    · refine ⟨true, rfl, fun _ => ?_, fun h => (by cases h), h⟩
      obtain ⟨x, hx⟩ : ∃ x, a[i]? = some x := ⟨_, List.getElem?_eq_getElem (by omega)⟩
      exact ⟨x, hx, .inl (List.drop_of_length_le (by omega))⟩
    have hjl : j < b.length := by omega
    obtain ⟨y, hy⟩ : ∃ x, b[j]? = some x := ⟨_, List.getElem?_eq_getElem hjl⟩
    have edb : b.drop j = y :: b.drop (j + 1) := by rw [List.drop_eq_getElem_cons hjl, (List.getElem?_eq_some_iff.1 hy).2]
    refine x_lenSs (h.sl0 ha) ?_
    refine a_lss (ifd (fun hc1 => ?_) fun hc1 => ?_)
    · have hil : i < a.length := by omega
      obtain ⟨x, hx⟩ : ∃ x, a[i]? = some x := ⟨_, List.getElem?_eq_getElem hil⟩
      have eda : a.drop i = x :: a.drop (i + 1) := by rw [List.drop_eq_getElem_cons hil, (List.getElem?_eq_some_iff.1 hx).2]
      refine x_sfld (h.sl0 ha) (fun _ e => by subst e; exact h.sl0 ha) (by omega) (by decide) (pcells_get hx).1 ?_
      refine x_sfld (h.sl0 hb) (fun _ e => by subst e; exact h.sl0 hb) (by omega) (by decide) (pcells_get hy).1 ?_
      refine x_lssL ?_
      refine ⟨_, rfl, fun hl => ⟨x, hx, .inr ⟨y, _, edb, hl⟩⟩, fun hl => ⟨y, hy, .inr ⟨x, _, eda, hl⟩⟩, h⟩
    · exact ⟨false, rfl, fun h => (by cases h), fun _ => ⟨y, hy, .inl (List.drop_of_length_le (by omega))⟩, h⟩
  clear h
  rintro vs W' _ ⟨tb, rfl, htt, htf, h⟩
  refine app6 ?_
  refine jni (fun vs W' => ∃ t' i' j', vs = [va, vb, t', nV .i64 i', nV .i64 j'] ∧ i' ≤ a.length ∧ j' ≤ b.length ∧ i + j < i' + j' ∧ ∃ out, out ++ rdf (a.drop i') (b.drop j') = rdf a b ∧ St W G0 [Ky t' (Ow 102 3 out.length (ccells out))] W') ?_ ?_
  · clear h hout hol
    rintro vs W' _ ⟨t', i', j', rfl, hi', hj', hlt, out, hout, h⟩
    refine app5 ?_
    exact ⟨rfl, rfl, hnext (t', i', j') W' (by simp only; omega) ⟨hi', hj', out, hout, h⟩⟩
  -- one change more
  have push : ∀ (W' : World) (d : Ch) (K : Value → World → Prop), St W G0 [Ky t (Ow 102 3 out.length (ccells out))] W' → (∀ t' W', St W G0 [Ky t' (Ow 102 3 (out ++ [d]).length (ccells (out ++ [d])))] W' → K t' W') →
      RunV Try.prog (Instr.buildSlice 90 1 #[(0, .agg (Ch.cells d).toArray)]) W' fun u w => RunV Try.prog (Builtin.append_ #[90, 90] 90 #[t, u]) w K := by
    intro W' d K h hK
    refine h.lit (vs := [.agg (Ch.cells d).toArray]) (cs := Ch.cells d) (fun u2 W o2 h => ?_) (by decide)
    refine St.app (v := t) h (h.osl (v := u2)) (by simp [Ch.cells, Value.oneCell']) (by unfold maxLen; omega) (by omega) fun v' W o' h _ => ?_
    refine hK v' W ?_
    rw [ccells_append, List.length_append, show ccells [d] = Ch.cells d by simp [ccells]]
    exact h.to
  refine ifb (fun ht => ?_) fun ht => ?_
  · obtain ⟨x, hx, hcase⟩ := htt ht
    have hil := (List.getElem?_eq_some_iff.1 hx).1
    have eda : a.drop i = x :: a.drop (i + 1) := by rw [List.drop_eq_getElem_cons hil, (List.getElem?_eq_some_iff.1 hx).2]
    refine x_fld (h.sl0 ha) (by omega) (by decide) (pcells_get hx).1 ?_
    refine x_bld (cells := (Ch.cells (x.1, [], true)).toArray) rfl ?_
    refine push _ (x.1, [], true) _ h fun t' W' h => ?_
    refine a_add64 (by omega) (by omega) ?_
    rw [show ((i : Int) + 1) = ((i + 1 : Nat) : Int) by push_cast; rfl]
    refine ⟨t', i + 1, j, rfl, by omega, by omega, by omega, out ++ [(x.1, [], true)], ?_, h⟩
    rw [← hout, eda, rdf_x hcase, List.append_assoc]; rfl
  obtain ⟨y, hy, hcase⟩ := htf ht
  have hjl := (List.getElem?_eq_some_iff.1 hy).1
  have edb : b.drop j = y :: b.drop (j + 1) := by rw [List.drop_eq_getElem_cons hjl, (List.getElem?_eq_some_iff.1 hy).2]
  have takeY : ∀ (W' : World) (K : Value → Value → World → Prop), St W G0 [Ky t (Ow 102 3 out.length (ccells out))] W' → (a.drop i = [] ∨ ∃ x s, a.drop i = x :: s ∧ OKey.lt x.1 y.1 = false ∧ OKey.lt y.1 x.1 = true) → (∀ t' W', (out ++ [(y.1, y.2, false)]) ++ rdf (a.drop i) (b.drop (j + 1)) = rdf a b → St W G0 [Ky t' (Ow 102 3 (out ++ [(y.1, y.2, false)]).length (ccells (out ++ [(y.1, y.2, false)])))] W' → K t' (nV .i64 (j + 1)) W') →
      drw (fun S w => RunA Try.prog (Instr.indexAt 83 vb (nV .i64 j)) fun q => RunA Try.prog (Instr.fieldAt 136 q 0) fun q => RunS Try.prog S (Instr.loadAt 9 q) fun t105 => RunA Try.prog (Instr.indexAt 83 vb (nV .i64 j)) fun q => RunA Try.prog (Instr.fieldAt 136 q 1) fun q => RunS Try.prog S (Instr.loadAt 9 q) fun t110 =>
        RunA Try.prog (bin .add 3 (.tmp 114) (.const (.int .i64 1)) (nV .i64 j) (.int .i64 1)) fun t115 => RunV Try.prog (Instr.build 102 #[(0, t105), (1, t110)]) w fun t111 w => RunV Try.prog (Instr.buildSlice 90 1 #[(0, t111)]) w fun u w => RunV Try.prog (Builtin.append_ #[90, 90] 90 #[t, u]) w fun t113 w => K t113 t115 w) W' := by
    intro W' K h hcase hK
    refine ⟨fun W2 => W2 = _, rfl, ?_⟩
    replace h := h.drew
    refine x_sfld (h.sl0 hb) (fun _ e => by subst e; exact h.sl0 hb) (by omega) (by decide) (pcells_get hy).1 ?_
    refine x_sfld (h.sl0 hb) (fun _ e => by subst e; exact h.sl0 hb) (by omega) (by decide) (pcells_get hy).2 ?_
    refine a_add64 (by omega) (by omega) ?_
    rw [show ((j : Int) + 1) = ((j + 1 : Nat) : Int) by push_cast; rfl]
    refine x_bld (cells := (Ch.cells (y.1, y.2, false)).toArray) rfl ?_
    refine push _ (y.1, y.2, false) _ h fun t' W' h => hK t' W' ?_ h
    rw [← hout, edb, rdf_y hcase, List.append_assoc]; rfl
  refine jni (fun vs W' => ∃ t' i' j', vs = [va, vb, t', nV .i64 i', nV .i64 j'] ∧ i' ≤ a.length ∧ j' ≤ b.length ∧ i + j < i' + j' ∧ ∃ out, out ++ rdf (a.drop i') (b.drop j') = rdf a b ∧ St W G0 [Ky t' (Ow 102 3 out.length (ccells out))] W') ?_ ?_
  · clear h hout hol
    rintro vs W' _ ⟨t', i', j', rfl, hr⟩
    refine app5 ?_
    exact ⟨t', i', j', rfl, hr⟩
  refine ⟨fun W2 => W2 = _, rfl, ?_⟩
  replace h := h.drew
  refine x_lenSs (h.sl0 ha) ?_
  refine s_eql (ifd (fun hc => ?_) fun hc => ?_)
  · refine takeY _ _ h (.inl (List.drop_of_length_le (by omega))) fun t' W' hout h => ?_
    exact ⟨t', i, j + 1, rfl, by omega, by omega, by omega, _, hout, h⟩
  have hil : i < a.length := by omega
  obtain ⟨x, hx⟩ : ∃ x, a[i]? = some x := ⟨_, List.getElem?_eq_getElem hil⟩
  have eda : a.drop i = x :: a.drop (i + 1) := by rw [List.drop_eq_getElem_cons hil, (List.getElem?_eq_some_iff.1 hx).2]
  have hge : OKey.lt x.1 y.1 = false := by
    rcases hcase with h0 | ⟨x', s, h0, h1⟩
    · rw [eda] at h0; cases h0
    · rw [eda] at h0; cases h0; exact h1
  refine x_sfld (h.sl0 hb) (fun _ e => by subst e; exact h.sl0 hb) (by omega) (by decide) (pcells_get hy).1 ?_
  refine x_sfld (h.sl0 ha) (fun _ e => by subst e; exact h.sl0 ha) (by omega) (by decide) (pcells_get hx).1 ?_
  refine x_lssL (ifb (fun hl => ?_) fun hl => ?_)
  · refine takeY _ _ h (.inr ⟨x, _, eda, hge, hl⟩) fun t' W' hout h => ?_
    exact ⟨t', i, j + 1, rfl, by omega, by omega, by omega, _, hout, h⟩
  have hb1 := rdf_b (x := x) (y := y) (xs := a.drop (i + 1)) (ys := b.drop (j + 1)) hge hl
  refine jni (fun vs W' => ∃ t', vs = [va, vb, t', nV .i64 i, nV .i64 j] ∧ ∃ out, out ++ rdf (a.drop (i + 1)) (b.drop (j + 1)) = rdf a b ∧ St W G0 [Ky t' (Ow 102 3 out.length (ccells out))] W') ?_ ?_
  · clear h
    rintro vs W' _ ⟨t', rfl, out, hout, h⟩
    refine app5 ?_
    refine a_add64 (by omega) (by omega) ?_
    refine a_add64 (by omega) (by omega) ?_
    rw [show ((i : Int) + 1) = ((i + 1 : Nat) : Int) by push_cast; rfl, show ((j : Int) + 1) = ((j + 1 : Nat) : Int) by push_cast; rfl]
    exact ⟨t', i + 1, j + 1, rfl, by omega, by omega, by omega, out, hout, h⟩
  refine ⟨fun W2 => W2 = _, rfl, ?_⟩
  replace h := h.drew
  refine x_sfld (h.sl0 ha) (fun _ e => by subst e; exact h.sl0 ha) (by omega) (by decide) (pcells_get hx).2 ?_
  refine x_sfld (h.sl0 hb) (fun _ e => by subst e; exact h.sl0 hb) (by omega) (by decide) (pcells_get hy).2 ?_
  refine s_neqL (ifd (fun hne => ?_) fun heq => ?_)
  · refine ⟨fun W2 => W2 = _, rfl, ?_⟩
    replace h := h.drew
    refine x_sfld (h.sl0 hb) (fun _ e => by subst e; exact h.sl0 hb) (by omega) (by decide) (pcells_get hy).1 ?_
    refine x_sfld (h.sl0 hb) (fun _ e => by subst e; exact h.sl0 hb) (by omega) (by decide) (pcells_get hy).2 ?_
    refine x_bld (cells := (Ch.cells (y.1, y.2, false)).toArray) rfl ?_
    refine push _ (y.1, y.2, false) _ h fun t' W' h => ?_
    refine ⟨t', rfl, out ++ [(y.1, y.2, false)], ?_, h⟩
    rw [← hout, eda, edb, hb1, if_pos hne, List.append_assoc]
  · refine ⟨t, rfl, out, ?_, h⟩
    rw [← hout, eda, edb, hb1, if_neg heq]; rfl
end
end Go.Proofs.Ytdjgchofnkancaa
