/-
  VERSIONS: numbers put one behind the other: VersNumbers: the walk.
-/
import Derived.Test.YtffnabbchghokaaVerF
import Derived.Test.YtffnabbchghokaaVerM
import Derived.Test.YtffnabbchghokaaVerCvn
namespace Go.Proofs.Ytffnabbchghokaa
open Go Go.Ez Go.RowKit
set_option linter.unusedSimpArgs false
set_option linter.unusedVariables false

section
variable {w0 W W' : World} {RR : Value → World → Prop}
/-- the store once some are put -/
def NmI (w0 : World) (v : Value) (rows : VRows Int) (low : Int) (W : World) : Prop := ∃ kp rs, Invn kp rs ∧ rwvn rs = rows ∧ St w0 G0 [Ky v (Vsvn rs low), Ky PoolK.a (Plvn kp)] W

/-- hbllaw11.VersNumbers -/
theorem nums_spec {l : List Int} {v1 : Value} {n1 : Nat} {low : Int} (hv1 : Sl W 1 v1 n1 (l.map Enc.enc)) (hn1 : n1 = l.length) (k : ∀ W', Below W.heap.size W W' → RR (.bool true) W') :
    CallF Try.prog 3 #[v1, .int .i64 low] W RR := by
  refine sh3_calls ?_
  unfold sh3
  subst hn1
  refine vfirst_spec fun W1 hb1 => ?_
  refine a_not (iff' ?_)
  refine vnewvn_spec ((St.start W).ext hb1) fun v W2 h _ => ?_
  obtain ⟨b, mv, hv, _⟩ := h.openVvn (v := v)
  have hp : v = .pointer (some ⟨b, 0, none⟩) := hv
  subst hv
  refine x_nilP (iff' ?_)
  refine x_lenS (h.sl0 hv1) ?_
  refine a_gtr (ifd (fun hc => ?_) fun hc => ?_)
  · refine x_nilPn (ift ?_)
    refine vfirst_spec fun W3 hb3 => ?_
    exact k W3 (h.ext hb3).low
  have h0 : NmI W (.pointer (some ⟨b, 0, none⟩)) (numsR []) 0 W2 := ⟨[], [], (fun r hr => by cases hr), rfl, (h.kqNil PoolK.a verCvn 101 3).to⟩
  clear h
  generalize hgv : (.pointer (some ⟨b, 0, none⟩) : Value) = v at h0 ⊢
  refine lpx (α := Nat) (fun i => [nV .i64 i]) (fun i W' => i ≤ l.length ∧ NmI W v (numsR (l.take i)) 0 W') (fun i => l.length - i) 0 (fun _ => rfl) rfl ⟨Nat.zero_le _, h0⟩ ?_
  clear h0
  rintro next i W3 hnext ⟨hi, kp, rs, hk, hr, h⟩
  refine app1 ?_
  refine x_lenS (h.sl0 hv1) ?_
  have htl : (l.take i).length = i := by rw [List.length_take]; omega
  refine a_lss (ifd (fun hc2 => ?_) fun hc2 => ?_)
  · obtain ⟨x, hx⟩ : ∃ x, l[i]? = some x := ⟨_, List.getElem?_eq_getElem (by omega)⟩
    refine a_add64 (by omega) (by omega) ?_
    refine x_at (h.sl0 hv1) (u := Enc.enc x) (by rw [List.getElem?_map, hx]; rfl) ?_
    have hbd : Bd (i + 1) (rwvn rs) := by rw [hr]; have := numsR_bd (l.take i); rw [htl] at this; exact this
    refine vputvn_spec (n := i + 1) (key := kN) (val := x) h hk hbd (by omega) fun kp1 rs1 W4 hk1 _ e1 h => ?_
    have ht : l.take i ++ [x] = l.take (i + 1) := by rw [List.take_add_one, hx]; rfl
    have a1 : addR (rwvn rs) 0 kN ((i : Int) + 1, x, false) = (0, numsR (l.take (i + 1))) := by
      have := numsR_put (l.take i) x (by omega)
      rw [htl, ht] at this
      rw [hr, this]
    rw [a1] at e1 ⊢
    refine w_neq (ifd_neg (fun h => h rfl) ?_)
    refine a_add64 (by omega) (by omega) ?_
    have htl2 : (l.take (i + 1)).length = i + 1 := by rw [List.length_take]; omega
    have hbd1 : Bd (i + 2) (rwvn rs1) := by rw [e1]; have := numsR_bd (l.take (i + 1)); rw [htl2] at this; exact this
    refine vputvn_spec (n := i + 2) (key := kN) (val := 7) h hk1 hbd1 (by omega) fun kp2 rs2 W5 hk2 _ e2 h => ?_
    have a2 : addR (rwvn rs1) 0 kN ((i : Int) + 1, 7, false) = (12, numsR (l.take (i + 1))) := by
      have := numsR_clash (l.take (i + 1)) 7 (by omega)
      rw [htl2, if_neg (by intro h0; rw [h0] at htl2; simp at htl2)] at this
      rw [e1, ← this]
      congr 1
    rw [a2] at e2 ⊢
    refine w_neq (ifd_neg (fun h => h rfl) ?_)
    refine a_add64 (by omega) (by omega) ⟨rfl, rfl, rfl, ?_⟩
    rw [show ((i : Int) + 1) = ((i + 1 : Nat) : Int) by push_cast; rfl]
    exact hnext (i + 1) W5 (by omega) ⟨by omega, kp2, rs2, hk2, e2, h⟩
  obtain rfl : i = l.length := by omega
  rw [List.take_length] at hr
  have hbd : Bd (l.length + 1) (rwvn rs) := by rw [hr]; exact numsR_bd l
  refine vcountvn_spec (h.freezeVvn hk) hbd (by omega) fun W4 hb4 => ?_
  replace h := h.ext hb4
  rw [hr, numsR_count]
  refine x_lenS (h.sl0 hv1) (w_neq (ifd_neg (by simp) ?_))
  refine lastvn_spec (key := kN) (h.freezeVvn hk) hbd (by omega) fun W5 hb5 => ?_
  replace h := h.ext hb5
  rw [hr, numsR_chain, numsC_last]
  refine x_lenS (h.sl0 hv1) (w_neq (ifd_neg (by simp) ?_))
  refine vprunevn_spec (n := l.length + 1) h hk hbd (by omega) fun kp1 rs1 W6 hk1 _ e1 h => ?_
  obtain ⟨low', hp⟩ := numsR_prune l low
  rw [hr, hp] at e1 ⊢
  rw [hr, hp] at h
  simp only at e1 h ⊢
  have fin : ∀ W', NmI W v (numsP l low) low' W' → RR (.bool true) W' := fun W' ⟨_, _, _, _, h⟩ => k W' h.low
  refine jni (fun vs W' => vs = [v1, .int .i64 low, v, nV .i64 (numsW l low), nV .i64 (numsW l low)] ∧ NmI W v (numsP l low) low' W') ?_ ?_
  · rintro vs W7 _ ⟨rfl, h7⟩
    refine app5 ?_
    refine w_max ?_
    refine lpx (α := Int) (fun at_ => [.int .i64 at_]) (fun at_ W' => max low 1 ≤ at_ ∧ NmI W v (numsP l low) low' W') (fun at_ => ((l.length : Int) + 1 - at_).toNat) (max low 1) (fun _ => rfl) rfl ⟨Int.le_refl _, h7⟩ ?_
    clear h7 h
    rintro next at_ W8 hnext ⟨hat, kp, rs, hk, hr, h⟩
    have hbd : Bd (l.length + 1) (rwvn rs) := by rw [hr]; exact numsP_bd l low
    refine app1 ?_
    refine x_lenS (h.sl0 hv1) ?_
    refine a_leq (ifd (fun hc => ?_) fun hc => ?_)
    · refine vgetvn_spec (key := kN) (h.freezeVvn hk) hbd (by omega) fun W9 hb9 => ?_
      replace h := h.ext hb9
      have a := numsP_told (l := l) (low := low) (t := at_) (.inl (by omega)) (by omega) (by omega)
      obtain ⟨x, hx⟩ : ∃ x, l[(at_ - 1).toNat]? = some x := ⟨_, List.getElem?_eq_getElem (by omega)⟩
      rw [hr, a, hx]
      refine a_ext0 (a_ext1 (a_not (iff' ?_)))
      refine a_sub64 (by omega) (by omega) ?_
      rw [show at_ - 1 = (((at_ - 1).toNat : Nat) : Int) by omega]
      refine x_at (h.sl0 hv1) (u := Enc.enc x) (by rw [List.getElem?_map, hx]; rfl) ?_
      refine (show RunW Try.prog (bin .neq _ _ _ (.int .i64 x) (.int .i64 x)) _ _ from ?_)
      refine w_neq (ifd_neg (by simp) ?_)
      refine a_add64 (by omega) (by omega) ⟨trivial, trivial, trivial, trivial, ?_⟩
      exact hnext (at_ + 1) W9 (by omega) ⟨by omega, kp, rs, hk, hr, h⟩
    · refine x_lenS (h.sl0 hv1) ?_
      refine vgetvn_spec (key := [109]) (h.freezeVvn hk) hbd (by omega) fun W9 hb9 => ?_
      replace h := h.ext hb9
      rw [hr, numsP_other l low (by decide)]
      refine a_ext0 (a_ext1 ?_)
      refine vfirst_spec fun W10 hb10 => ?_
      replace h := h.ext hb10
      refine ift (w_eql (ifd_pos rfl ?_))
      refine vcountvn_spec (h.freezeVvn hk) hbd (by omega) fun W11 hb11 => ?_
      replace h := h.ext hb11
      rw [hr, numsP_count]
      have hw : numsW l low ≤ l.length := by unfold numsW; split <;> omega
      refine x_lenS (h.sl0 hv1) (a_sub64 (by omega) (by omega) (w_eql (ifd_pos (by omega) ?_)))
      refine a_not ?_
      exact fin W11 ⟨kp, rs, hk, hr, h⟩
  · have h9 : NmI W v (numsP l low) low' W6 := ⟨kp1, rs1, hk1, e1, h⟩
    refine a_gtr (ifd (fun hc1 => ?_) fun hc1 => ?_)
    · refine a_leq (ifd (fun hc2 => ?_) fun hc2 => ?_)
      · refine x_lenS (h.sl0 hv1) (w_min (a_sub64 (by omega) (by omega) (w_max ?_)))
        have : max (min low (l.length : Int) - 1) 0 = ((numsW l low : Nat) : Int) := by
          unfold numsW
          rw [if_neg (by omega)]
          omega
        rw [this]
        exact ⟨rfl, h9⟩
      · have : numsW l low = 0 := by unfold numsW; rw [if_pos (by omega)]
        rw [this]
        exact ⟨rfl, h9⟩
    · have : numsW l low = 0 := by unfold numsW; rw [if_pos (by omega)]
      rw [this]
      exact ⟨rfl, h9⟩
end
end Go.Proofs.Ytffnabbchghokaa
