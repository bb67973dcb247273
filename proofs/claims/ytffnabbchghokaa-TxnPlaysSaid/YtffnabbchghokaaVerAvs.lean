/-
  VERSIONS (of string): what is to be seen of a chain; a chain copied, pruned: what each function answers.
-/
import Derived.Test.YtffnabbchghokaaVerP
import Derived.Test.YtffnabbchghokaaEzRc
import Derived.Test.YtffnabbchghokaaEzFz
import Derived.Test.YtffnabbchghokaaOmDvs
namespace Go.Proofs.Ytffnabbchghokaa
open Go Go.Ez Go.RowKit
set_option linter.unusedSimpArgs false
set_option linter.unusedVariables false

def verCvs (v : Ver Txt) : List Value := [.int .i64 v.1, Enc.enc v.2.1, .bool v.2.2]
abbrev chCvs (l : List (Ver Txt)) : List Value := rcells verCvs l
theorem ver3vs (v : Ver Txt) : (verCvs v).length = 3 := rfl
theorem chCvs_0 {l : List (Ver Txt)} {i : Nat} {v : Ver Txt} (h : l[i]? = some v) : (chCvs l)[i * 3 + 0]? = some (.int .i64 v.1) := (rc_get ver3vs h (by decide)).trans rfl
theorem chCvs_1 {l : List (Ver Txt)} {i : Nat} {v : Ver Txt} (h : l[i]? = some v) : (chCvs l)[i * 3 + 1]? = some (Enc.enc v.2.1) := (rc_get ver3vs h (by decide)).trans rfl
theorem chCvs_2 {l : List (Ver Txt)} {i : Nat} {v : Ver Txt} (h : l[i]? = some v) : (chCvs l)[i * 3 + 2]? = some (.bool v.2.2) := (rc_get ver3vs h (by decide)).trans rfl
theorem chCvs_one (l : List (Ver Txt)) : ∀ c ∈ chCvs l, c.oneCell' = true := rc_one (fun v c hc => by
  simp only [verCvs, List.mem_cons, List.not_mem_nil, or_false] at hc
  rcases hc with rfl | rfl | rfl
  · rfl
  · exact Enc.one _
  · rfl) l

section
variable {W : World} {RR : Value → World → Prop}

/-- vers.seen -/
theorem seenvs_spec {l : List (Ver Txt)} {v : Value} {n : Nat} {t : Int} (hv : Sl W 3 v n (chCvs l)) (hn : n = l.length) (hl : l.length ≤ 1000000) (k : RR (.int .i64 ((seenN l t : Int) - 1)) W) :
    CallF Try.prog 110 #[v, .int .i64 t] W RR := by
  refine sh110_calls ?_
  unfold sh110
  subst hn
  refine x_lenS hv ?_
  refine a_sub64 (by omega) (by omega) ?_
  refine jni (fun vs W' => vs = [.int .i64 ((seenN l t : Int) - 1)] ∧ W' = W) ?_ ?_
  · rintro vs W' _ ⟨rfl, rfl⟩
    refine app1 ?_
    exact k
  refine lpx (α := Nat) (fun i => [.int .i64 ((i : Int) - 1)]) (fun i W' => i ≤ l.length ∧ seenF l t i = seenN l t ∧ W' = W) (fun i => i) l.length (fun _ => rfl) rfl ⟨Nat.le_refl _, rfl, rfl⟩ ?_
  rintro next i W' hnext ⟨hi, hs, rfl⟩
  refine app1 ?_
  refine a_geq (ifd (fun hc => ?_) fun hc => ?_)
  · obtain ⟨q, rfl⟩ : ∃ q, i = q + 1 := ⟨i - 1, by omega⟩
    obtain ⟨u, hu⟩ : ∃ u, l[q]? = some u := ⟨_, List.getElem?_eq_getElem (by omega)⟩
    have hs' : (if t < u.1 then seenF l t q else q + 1) = seenN l t := by
      rw [← hs]
      show _ = seenF l t (q + 1)
      rw [seenF, hu]
    rw [show (((q + 1 : Nat) : Int) - 1) = (q : Int) by omega]
    refine x_fld hv (by omega) (by decide) (chCvs_0 hu) ?_
    refine a_gtr (ifd (fun hg => ?_) fun hg => ?_)
    · rw [if_pos hg] at hs'
      refine a_sub64 (by omega) (by omega) ⟨rfl, rfl, ?_⟩
      exact hnext q W' (by omega) ⟨by omega, hs', rfl⟩
    · rw [if_neg hg] at hs'
      rw [← hs']
      refine ⟨?_, rfl⟩
      rw [show (((q + 1 : Nat) : Int) - 1) = (q : Int) by omega]
  · obtain rfl : i = 0 := by omega
    rw [← hs]
    exact ⟨rfl, rfl⟩

/-- vers.told -/
theorem toldvs_spec {l : List (Ver Txt)} {v : Value} {n : Nat} {t : Int} (hv : Sl W 3 v n (chCvs l)) (hn : n = l.length) (hl : l.length ≤ 1000000) (k : RR (.tuple #[Enc.enc ((toldC l t).getD default), .bool (toldC l t).isSome]) W) :
    CallF Try.prog 78 #[v, .int .i64 t] W RR := by
  refine sh78_calls ?_
  unfold sh78
  subst hn
  refine seenvs_spec hv rfl hl ?_
  have hle := seenN_le l t
  unfold toldC at k
  cases hs : seenN l t with
  | zero =>
    rw [hs] at k
    refine a_lss (ifd_pos (by omega) ?_)
    exact k
  | succ q =>
    obtain ⟨u, hu⟩ : ∃ u, l[q]? = some u := ⟨_, List.getElem?_eq_getElem (by omega)⟩
    rw [hs] at k
    simp only [hu] at k
    refine a_lss (ifd_neg (by omega) ?_)
    rw [show (((q + 1 : Nat) : Int) - 1) = (q : Int) by omega]
    refine x_fld hv (by omega) (by decide) (chCvs_2 hu) ?_
    refine ifb (fun hg => ?_) fun hg => ?_
    · rw [hg, if_pos rfl] at k
      exact k
    · rw [hg, if_neg (by simp)] at k
      refine x_fld hv (by omega) (by decide) (chCvs_1 hu) ?_
      exact k

/-- slices.Clone -/
theorem vclonevs_spec {l : List (Ver Txt)} {v : Value} {n : Nat} (hv : Sl W 3 v n (chCvs l)) (hn : n = l.length) (hl : l.length ≤ 1000000) (k : ∀ v' W', Cel1 v' → St W G0 [Ky v' (Ow 58 3 l.length (chCvs l))] W' → RR v' W') :
    CallF Try.prog 85 #[v] W RR := by
  refine sh85_calls ?_
  unfold sh85
  subst hn
  have h := St.start W
  have go : ∀ (W' : World), St W G0 [] W' → RunV Try.prog (Instr.buildSlice 55 0 #[]) W' fun t5 w => RunV Try.prog (Builtin.append_ #[55, 55] 55 #[t5, v]) w RR := by
    intro W' h
    refine h.lit (vs := []) (cs := []) (fun u W o h => ?_) (by decide)
    refine St.app (v := u) h (h.sl0 hv) (chCvs_one l) (by unfold maxLen; omega) (by omega) fun v' W' o' h' _ => ?_
    refine k v' W' o' ?_
    rw [Nat.zero_add, List.nil_append] at h'
    exact h'.to
  refine w_nilSE Try.underlying55 hv fun b hb => ?_
  refine ifb (fun hb1 => ?_) fun _ => go W h
  obtain ⟨hv0, hn0⟩ := hb hb1
  have hl0 : l = [] := List.eq_nil_of_length_eq_zero hn0
  subst hl0
  have h' : St W G0 (Ky (.slice none 0 0 : Value) (Ow 58 3 0 []) :: []) W := h.nilOw
  exact k _ W ⟨rfl⟩ h'

/-- vers.pruned -/
theorem prunedvs_spec {l : List (Ver Txt)} {v : Value} {n : Nat} {t : Int} (hv : Sl W 3 v n (chCvs l)) (hn : n = l.length) (hl : l.length ≤ 1000000) (k : ∀ v' W', Cel1 v' → St W G0 [Ky v' (Ow 58 3 (prunedC l t).length (chCvs (prunedC l t)))] W' → RR v' W') :
    CallF Try.prog 80 #[v, .int .i64 t] W RR := by
  refine sh80_calls ?_
  unfold sh80
  subst hn
  have hle := seenN_le l t
  refine seenvs_spec hv rfl hl ?_
  refine w_max ?_
  rw [show max ((seenN l t : Int) - 1) 0 = ((seenN l t - 1 : Nat) : Int) by omega]
  refine x_cutRd hv (by omega) fun u hu => ?_
  rw [← rc_drop ver3vs] at hu
  have hld : (l.drop (seenN l t - 1)).length = l.length - (seenN l t - 1) := List.length_drop
  rw [← hld] at hu
  unfold prunedC at k
  generalize l.drop (seenN l t - 1) = m at *
  refine jni (fun vs W' => ∃ u, vs = [u] ∧ Sl W 3 u (cutC t m).length (chCvs (cutC t m)) ∧ W' = W) ?_ ?_
  · rintro vs W' _ ⟨u, rfl, hu, rfl⟩
    refine app1 ?_
    have hcl : (cutC t m).length ≤ m.length := by
      cases m with
      | nil => exact Nat.le_refl _
      | cons x m =>
        show (if x.2.2 = true ∧ x.1 ≤ t then m else x :: m).length ≤ _
        split
        · simp
        · exact Nat.le_refl _
    exact vclonevs_spec hu rfl (by omega) k
  refine x_lenS hu ?_
  cases m with
  | nil =>
    refine a_gtr (ifd_neg (by simp) ?_)
    exact ⟨u, rfl, hu, rfl⟩
  | cons x m =>
    refine a_gtr (ifd_pos (by simp) ?_)
    have e : cutC t (x :: m) = if x.2.2 = true ∧ x.1 ≤ t then m else x :: m := rfl
    refine x_fld (i := 0) hu (by simp) (by decide) (chCvs_2 (i := 0) (v := x) rfl) ?_
    refine ifb (fun hg => ?_) fun hg => ?_
    · refine x_fld (i := 0) hu (by simp) (by decide) (chCvs_0 (i := 0) (v := x) rfl) ?_
      refine a_leq (ifd (fun hc => ?_) fun hc => ?_)
      · rw [e, if_pos ⟨hg, hc⟩]
        refine x_cutRd (k := 1) hu (by simp) fun u' hu' => ?_
        refine ⟨u', rfl, ?_, rfl⟩
        rw [← rc_drop ver3vs] at hu'
        exact hu'
      · rw [e, if_neg fun h => hc h.2]
        exact ⟨u, rfl, hu, rfl⟩
    · rw [e, if_neg fun h => by rw [hg] at h; cases h.1]
      exact ⟨u, rfl, hu, rfl⟩
end
end Go.Proofs.Ytffnabbchghokaa
