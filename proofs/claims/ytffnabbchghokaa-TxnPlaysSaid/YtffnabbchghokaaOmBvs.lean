/-
  SLICES OF PAIRS ([string, []handbill/vers.Version[string]]): a pair set in, a pair taken out, a copy: what the library's functions answer.
-/
import Derived.Test.YtffnabbchghokaaEzSlc
import Derived.Test.YtffnabbchghokaaTy
import Derived.Test.YtffnabbchghokaaSh
import Derived.Test.YtffnabbchghokaaOmOv
namespace Go.Proofs.Ytffnabbchghokaa
open Go Go.Ez Go.RowKit
set_option linter.unusedSimpArgs false
set_option linter.unusedVariables false

theorem take_len {α : Type} {a b : List α} {n : Nat} (h : a.length = n) : (a ++ b).take n = a := by rw [← h, List.take_left]

theorem insertvs_spec {w0 W : World} {G : Nat → Prop} {l R1 R : List As} {v u c0 c1 : Value} {n i : Nat} {xs : List Value} {RR : Value → World → Prop} [Has l v (Ow 163 2 n xs) R1] [Has R1 u (Ow 163 2 1 [c0, c1]) R] [o0 : Cel1 c0] [o1 : Cel1 c1]
    (h : St w0 G l W) (hx : ∀ c ∈ xs, c.oneCell' = true) (hi : i ≤ n) (hn : n ≤ 1000000000)
    (k : ∀ v' W', Cel1 v' → St w0 G (Ky v' (Ow 163 2 (n + 1) (xs.take (i * 2) ++ [c0, c1] ++ xs.drop (i * 2))) :: R) W' → RR v' W') :
    CallF Try.prog 115 #[v, nV .i64 i, u] W RR := by
  refine sh115_calls ?_
  unfold sh115
  have hv := h.osl (v := v)
  have hlen : xs.length = n * 2 := (h.ow (v := v)).1
  have h2 : St w0 G (Ky u (Ow 163 2 1 [c0, c1]) :: Ky v (Ow 163 2 n xs) :: R) W := (St.find (k := v) (X := Ow 163 2 n xs) h).to
  have hu := h2.osl (v := u)
  refine x_slAny hv hi fun _ => ?_
  refine x_lenS hu ?_
  refine w_eql (ifd_neg (by decide) ?_)
  refine x_lenS hv ?_
  refine w_eql (ifd (fun hc => ?_) fun hc => ?_)
  · have hin : i = n := by omega
    subst hin
    refine St.app (v := v) h2 hu (by simp [o0.one, o1.one]) (by unfold maxLen; omega) (by omega) fun v' W' o' h' _ => ?_
    have e : xs.take (i * 2) ++ [c0, c1] ++ xs.drop (i * 2) = xs ++ [c0, c1] := by rw [← hlen, List.take_length, List.drop_length, List.append_nil]
    refine k v' W' o' ?_
    rw [e]
    exact h'.to
  · have hin : i < n := by omega
    rcases h2.openOw (v := v) with ⟨_, h0, _, _⟩ | ⟨g, cap, cur, rfl, hnc, hcm, hcl, htk, h3⟩
    · omega
    rcases h3.openOw (v := u) with ⟨_, h0, _, _⟩ | ⟨gu, capu, curu, rfl, huc, hum, hul, hut, h4⟩
    · omega
    have hcap : cap ≤ 9223372036854775807 := by unfold maxLen at hcm; exact hcm
    have husrc : ∀ (W' : World), W'.heap[gu]? = some (.cells curu.toArray 163 (0, 0)) → ∀ j x, [c0, c1][j]? = some x → W'.cell? ((⟨gu, 0, none⟩ : Addr).add j) = some x := by
      intro W' hW j x hj
      rw [addr_add, Nat.zero_add]
      refine Rec.cell (t := 163) (cs := curu) hW ?_
      rw [← hut, List.getElem?_take] at hj
      split at hj
      · exact hj
      · cases hj
    refine a_add64 (by omega) (by omega) ?_
    rw [show ((n : Int) + ((1 : Nat) : Int)) = ((n + 1 : Nat) : Int) by push_cast; rfl]
    refine x_cap ?_
    refine a_gtr (ifd (fun hg => ?_) fun hg => ?_)
    · have hg' : cap < n + 1 := by omega
      refine x_slH (by omega) ?_
      refine a_add64 (by omega) (by omega) ?_
      rw [show ((n : Int) + ((1 : Nat) : Int)) = ((n + 1 : Nat) : Int) by push_cast; rfl]
      refine a_sub64 (by omega) (by omega) ?_
      rw [show (((n + 1 : Nat) : Int) - (i : Int)) = ((n + 1 - i : Nat) : Int) by omega]
      have hA : (cur.take (i * 2)).length = i * 2 := by rw [List.length_take, hcl]; omega
      refine St.appZeros (olds := cur.take (i * 2)) h4 hA (fun j x hj => ?_) (by omega) (by omega) (by omega) (by unfold maxLen; omega) fun g' cap' rest W' hc1 hc2 hrl h5 _ => ?_
      · rw [addr_add, Nat.zero_add]
        rw [List.getElem?_take] at hj
        split at hj
        · exact h4.cellOf (g := g) hj
        · cases hj
      have hz := zerosL_length (z := (.agg #[c0, c1] : Value)) (n := n + 1 - i) (sz := 2) rfl
      rw [show i + (n + 1 - i) = n + 1 by omega] at hc1 hrl ⊢
      refine x_slL (by omega) ?_
      have ho1 : offs cap' i 0 2 = i * 2 := by unfold offs; rw [if_neg (by omega), Nat.zero_add]
      rw [ho1]
      generalize hZ : zerosL _ (n + 1 - i) = Z at h5
      have hZl : Z.length = (n + 1 - i) * 2 := by rw [← hZ]; exact zerosL_length rfl
      refine St.copy (m := 1) (g := g') (cs := [c0, c1]) h5 (by simp [Nat.min_def]; omega) rfl (husrc W' h5.ob) (by simp only [List.length_append, hA, hZl, hrl, List.length_cons, List.length_nil]; omega) (by simp [o0.one, o1.one]) fun W' h6 => ?_
      refine ⟨fun _ => True, trivial, ?_⟩
      replace h6 := h6.drew
      refine a_add64 (by omega) (by omega) ?_
      rw [show ((i : Int) + ((1 : Nat) : Int)) = ((i + 1 : Nat) : Int) by push_cast; rfl]
      refine x_slL (by omega) ?_
      have ho2 : offs cap' (i + 1) 0 2 = (i + 1) * 2 := by unfold offs; rw [if_neg (by omega), Nat.zero_add]
      rw [ho2]
      refine x_slL (by omega) ?_
      have ho3 : offs cap i 0 2 = i * 2 := by unfold offs; rw [if_neg (by omega), Nat.zero_add]
      rw [ho3]
      have hcsl : (xs.drop (i * 2)).length = (n - i) * 2 := by rw [List.length_drop, hlen]; omega
      have hcur1 : ((cur.take (i * 2) ++ Z ++ rest).take (i * 2) ++ [c0, c1] ++ (cur.take (i * 2) ++ Z ++ rest).drop (i * 2 + [c0, c1].length)).length = cap' * 2 := by
        simp only [List.length_append, List.length_take, List.length_drop, hA, hZl, hrl, List.length_cons, List.length_nil, hcl]; omega
      refine St.copy (m := n - i) (g := g') (cs := xs.drop (i * 2)) h6 (by simp only [Nat.min_def]; split <;> omega) hcsl (fun j x hj => ?_) (by rw [hcur1, hcsl]; omega) (fun c hc => hx c (List.mem_of_mem_drop hc)) fun W' h7 => ?_
      · rw [addr_add]
        rw [← htk, List.getElem?_drop, List.getElem?_take] at hj
        split at hj
        · exact h6.cellOf (g := g) hj
        · cases hj
      · have hA2 : cur.take (i * 2) = xs.take (i * 2) := by rw [← htk, List.take_take, Nat.min_eq_left (by omega)]
        refine k _ W' ⟨rfl⟩ ?_
        refine (St.shutOw (g := g') (sz := 2) (n := n + 1) (cap := cap') (xs := xs.take (i * 2) ++ [c0, c1] ++ xs.drop (i * 2)) h7 hc1 hc2 ?_ ?_).to
        · rw [splice_len (by rw [hcur1, hcsl]; omega)]; exact hcur1
        · have e1 : ((cur.take (i * 2) ++ Z ++ rest).take (i * 2) ++ [c0, c1] ++ (cur.take (i * 2) ++ Z ++ rest).drop (i * 2 + [c0, c1].length)).take ((i + 1) * 2) = xs.take (i * 2) ++ [c0, c1] := by
            rw [List.append_assoc (cur.take (i * 2)), take_len hA]
            rw [show (i + 1) * 2 = (cur.take (i * 2) ++ [c0, c1]).length by rw [List.length_append, hA]; simp; omega, List.take_left, hA2]
          rw [e1]
          exact take_len (by rw [List.length_append, List.length_append, hcsl, List.length_take, hlen]; simp; omega)
    · have hg' : n + 1 ≤ cap := by omega
      refine a_add64 (by omega) (by omega) ?_
      rw [show ((n : Int) + ((1 : Nat) : Int)) = ((n + 1 : Nat) : Int) by push_cast; rfl]
      refine x_slH (by omega) ?_
      refine a_add64 (by omega) (by omega) ?_
      rw [show ((i : Int) + ((1 : Nat) : Int)) = ((i + 1 : Nat) : Int) by push_cast; rfl]
      refine x_slL (by omega) ?_
      have ho2 : offs cap (i + 1) 0 2 = (i + 1) * 2 := by unfold offs; rw [if_neg (by omega), Nat.zero_add]
      have ho1 : offs cap i 0 2 = i * 2 := by unfold offs; rw [if_neg (by omega), Nat.zero_add]
      rw [ho2]
      refine St.apart (g := gu) (g' := g) (cur := curu) (cur' := cur) h4 (fun args => run_callFunc_extern (e := Extern.SlicesOverlaps.overlaps #[157, 157] #[4]) Try.func135 (by kernel_rfl) (by kernel_rfl) (by kernel_rfl) (by kernel_rfl) args _) (by omega) ?_
      refine a_not (ift ?_)
      refine ⟨fun _ => True, trivial, ?_⟩
      have h5 := h4.drew
      refine a_add64 (by omega) (by omega) ?_
      rw [show ((i : Int) + ((1 : Nat) : Int)) = ((i + 1 : Nat) : Int) by push_cast; rfl]
      refine x_slL (by omega) ?_
      rw [ho2]
      refine x_slL (by omega) ?_
      rw [ho1]
      have hcsl : (xs.drop (i * 2)).length = (n - i) * 2 := by rw [List.length_drop, hlen]; omega
      refine St.copy (m := n - i) (g := g) (cs := xs.drop (i * 2)) h5 (by simp [Nat.min_def]; omega) hcsl (fun j x hj => ?_) (by rw [hcl, hcsl]; omega) (fun c hc => hx c (List.mem_of_mem_drop hc)) fun W' h6 => ?_
      · rw [addr_add]
        rw [← htk, List.getElem?_drop, List.getElem?_take] at hj
        split at hj
        · exact h5.cellOf (g := g) hj
        · cases hj
      refine x_slL (by omega) ?_
      rw [ho1]
      have hA1 : (cur.take ((i + 1) * 2)).length = (i + 1) * 2 := by rw [List.length_take, hcl]; omega
      have hc1l : (cur.take ((i + 1) * 2) ++ xs.drop (i * 2) ++ cur.drop ((i + 1) * 2 + (xs.drop (i * 2)).length)).length = cap * 2 := by
        simp only [List.length_append, hA1, hcsl, List.length_drop, hcl]; omega
      refine St.copy (m := 1) (g := g) (cs := [c0, c1]) h6 (by simp [Nat.min_def]; omega) rfl (husrc W' (h6.ob (b := gu) (o := .cells curu.toArray 163 (0, 0)))) (by rw [hc1l]; simp; omega) (by simp [o0.one, o1.one]) fun W' h7 => ?_
      refine k _ W' ⟨rfl⟩ ?_
      have hB : ((cur.take ((i + 1) * 2) ++ xs.drop (i * 2) ++ cur.drop ((i + 1) * 2 + (xs.drop (i * 2)).length)).take (i * 2)) = xs.take (i * 2) := by
        rw [List.append_assoc, List.take_append_of_le_length (by rw [hA1]; omega), List.take_take, Nat.min_eq_left (by omega), ← htk, List.take_take, Nat.min_eq_left (by omega)]
      have hD : ((cur.take ((i + 1) * 2) ++ xs.drop (i * 2) ++ cur.drop ((i + 1) * 2 + (xs.drop (i * 2)).length)).drop (i * 2 + [c0, c1].length)) = xs.drop (i * 2) ++ cur.drop ((i + 1) * 2 + (xs.drop (i * 2)).length) := by
        rw [List.append_assoc, show i * 2 + [c0, c1].length = (cur.take ((i + 1) * 2)).length by rw [hA1]; simp; omega, List.drop_left]
      refine (St.shutOw (g := g) (sz := 2) (n := n + 1) (cap := cap) (xs := xs.take (i * 2) ++ [c0, c1] ++ xs.drop (i * 2)) h7 hg' hcm ?_ ?_).to
      · rw [hB, hD]
        simp only [List.length_append, List.length_take, List.length_drop, hlen, hcl, List.length_cons, List.length_nil]; omega
      · rw [hB, hD, ← List.append_assoc]
        exact take_len (by simp only [List.length_append, List.length_take, List.length_drop, hlen, List.length_cons, List.length_nil]; omega)
end Go.Proofs.Ytffnabbchghokaa
