/-
  DATES: days, months, seconds: what each function answers.
-/
import Derived.Test.YtififikdlcohpaaDoorDtP
import Derived.Test.YtififikdlcohpaaDoorTy
import Derived.Test.YtififikdlcohpaaDoorSh
namespace Go.Proofs.YtififikdlcohpaaDoor
open Go Go.Ez Go.RowKit
set_option linter.unusedSimpArgs false
set_option linter.unusedVariables false
section
variable {w0 W W' : World} {G : Nat → Prop} {l R : List As} {RR : Value → World → Prop} {y mo d h mi s : Int}
/-- date.leap -/
theorem leap_spec (hy : 0 ≤ y) (k : RR (.bool (leapB y)) W) : CallF Tryd.prog 84 #[.int .i64 y] W RR := by
  refine sh84_calls ?_
  unfold sh84
  unfold leapB at k
  refine a_rem64 hy (by decide) (w_eql (ifd (fun h4 => ?_) fun h4 => ?_))
  · refine a_rem64 hy (by decide) (w_neq (ifd (fun h1 => ?_) fun h1 => ?_))
    · rw [decide_eq_true h4, decide_eq_true h1] at k; exact k
    · refine a_rem64 hy (by decide) (w_eql ?_)
      rw [decide_eq_false h1] at k; simpa using k
  · refine a_rem64 hy (by decide) (w_eql ?_)
    rw [decide_eq_false h4] at k; simpa using k
/-- date.length -/
theorem length_spec (hy : 0 ≤ y) (k : RR (.int .i64 (lenM y mo)) W) : CallF Tryd.prog 51 #[.int .i64 y, .int .i64 mo] W RR := by
  refine sh51_calls ?_
  unfold sh51
  refine jni (fun vs W' => vs = [] ∧ ¬ mo = 2 ∧ ¬ (mo = 4 ∨ mo = 6 ∨ mo = 9 ∨ mo = 11) ∧ W' = W) ?_ ?_
  · rintro vs W' _ ⟨rfl, h2, h3, rfl⟩
    show RR _ _
    unfold lenM at k
    rw [if_neg h2, if_neg h3] at k; exact k
  · have e30 : ¬ mo = 2 → (mo = 4 ∨ mo = 6 ∨ mo = 9 ∨ mo = 11) → RR (.int .i64 30) W := fun h2 h3 => by
      unfold lenM at k; rw [if_neg h2, if_pos h3] at k; exact k
    refine w_eql (ifd (fun h2 => ?_) fun h2 => ?_)
    · refine leap_spec hy (ifb (fun hl => ?_) fun hl => ?_)
      · unfold lenM at k; rw [if_pos h2, if_pos hl] at k; exact k
      · refine w_eql (ifd_pos h2 ?_)
        unfold lenM at k; rw [if_pos h2, hl, if_neg (by simp)] at k; exact k
    · refine w_eql (ifd_neg h2 ?_)
      refine w_eql (ifd (fun h3 => e30 h2 (by omega)) fun h4 => ?_)
      refine w_eql (ifd (fun h3 => e30 h2 (by omega)) fun h6 => ?_)
      refine w_eql (ifd (fun h3 => e30 h2 (by omega)) fun h9 => ?_)
      refine w_eql (ifd (fun h3 => e30 h2 (by omega)) fun h11 => ?_)
      exact ⟨rfl, h2, by omega, rfl⟩
/-- date.first -/
theorem firstd_spec (hy : 1 ≤ y) (hy' : y ≤ 100000) (k : RR (.int .i64 (firstD y)) W) : CallF Tryd.prog 52 #[.int .i64 y] W RR := by
  refine sh52_calls ?_
  unfold sh52
  refine a_sub64 (by omega) (by omega) (a_mul64 (by omega) (by omega) ?_)
  refine a_quo64 (by omega) (by omega) (by decide) (a_add64 (by omega) (by omega) ?_)
  refine a_quo64 (by omega) (by omega) (by decide) (a_sub64 (by omega) (by omega) ?_)
  refine a_quo64 (by omega) (by omega) (by decide) (a_add64 (by omega) (by omega) ?_)
  refine a_sub64 (by omega) (by omega) ?_
  exact k
/-- date.within -/
theorem within_spec {t : Int} (k : RR (.bool (within t)) W) : CallF Tryd.prog 62 #[.int .i64 t] W RR := by
  refine sh62_calls ?_
  unfold sh62
  unfold within at k
  refine a_geq (ifd (fun h0 => ?_) fun h0 => ?_)
  · refine firstd_spec (by decide) (by decide) ?_
    rw [show firstD 10000 = 2932897 by decide]
    refine a_mul64 (by decide) (by decide) (a_lss ?_)
    rw [show (2932897 * 86400 : Int) = 253402300800 by decide]
    rw [show decide (0 ≤ t ∧ t < 253402300800) = decide (t < 253402300800) from decide_eq_decide.2 ⟨fun h => h.2, fun h => ⟨h0, h⟩⟩] at k
    exact k
  · rw [decide_eq_false fun h => h0 h.1] at k; exact k
/-- date.Make -/
theorem make_spec (k : RR (.tuple #[.int .i64 (makeP y mo d h mi s).1, .bool (makeP y mo d h mi s).2]) W) : CallF Tryd.prog 25 #[.int .i64 y, .int .i64 mo, .int .i64 d, .int .i64 h, .int .i64 mi, .int .i64 s] W RR := by
  refine sh25_calls ?_
  unfold sh25
  refine jni (fun vs W' => ∃ b : Bool, vs = [.int .i64 y, .int .i64 mo, .int .i64 d, .int .i64 h, .int .i64 mi, .int .i64 s, .bool b] ∧ okM y mo d h mi s = !b ∧ W' = W) ?_ ?_
  · rintro vs W' _ ⟨b, rfl, hok, rfl⟩
    refine app7 ?_
    refine ifb (fun hb => ?_) fun hb => ?_
    · subst hb
      unfold makeP at k; rw [hok] at k; exact k
    subst hb
    have e : makeP y mo d h mi s = (secN y mo d h mi s, true) := by unfold makeP; rw [hok]; rfl
    rw [e] at k
    obtain ⟨h1, h2, h3, h4, h5, h6, h7, h8, h9, h10, h11, h12⟩ := of_decide_eq_true hok
    have hl := lenM_le y mo
    obtain ⟨hf, hf'⟩ := firstD_rng h1 (by omega)
    refine firstd_spec (by omega) (by omega) ?_
    refine a_add64 (by omega) (by omega) (a_sub64 (by omega) (by omega) ?_)
    refine lpx (α := Nat) (fun i => [.int .i64 (firstD y + d - 1 + sumL y i), nV .i64 (i + 1)]) (fun i W'' => i + 1 ≤ mo.toNat ∧ W'' = W') (fun i => mo.toNat - i) 0 (fun _ => rfl) (by simp [sumL]) ⟨by omega, rfl⟩ ?_
    rintro next i W3 hnext ⟨hi, rfl⟩
    refine app2 ?_
    have hs1 := sumL_ge y i
    have hs2 := sumL_le y i
    refine a_lss (ifd (fun hc => ?_) fun hc => ?_)
    · refine length_spec (by omega) ?_
      have hg := lenM_ge y ((i + 1 : Nat) : Int)
      have hg' := lenM_le y ((i + 1 : Nat) : Int)
      refine a_add64 (by omega) (by omega) (a_add64 (by omega) (by omega) ⟨rfl, rfl, rfl, rfl, rfl, ?_⟩)
      rw [show firstD y + d - 1 + sumL y i + lenM y ((i + 1 : Nat) : Int) = firstD y + d - 1 + sumL y (i + 1) by rw [show sumL y (i + 1) = sumL y i + lenM y ((i + 1 : Nat) : Int) from rfl]; omega, show (((i + 1 : Nat) : Int) + 1) = ((i + 1 + 1 : Nat) : Int) by push_cast; rfl]
      exact hnext (i + 1) _ (by omega) ⟨by omega, rfl⟩
    · have hie : i = (mo - 1).toNat := by omega
      refine a_mul64 (by omega) (by omega) (a_mul64 (by omega) (by omega) (a_add64 (by omega) (by omega) (a_mul64 (by omega) (by omega) (a_add64 (by omega) (by omega) (w_min (a_add64 (by omega) (by omega) ?_))))))
      subst hie
      exact k
  · have bad : ¬ (1970 ≤ y ∧ y ≤ 9999 ∧ 1 ≤ mo ∧ mo ≤ 12 ∧ 1 ≤ d ∧ d ≤ lenM y mo ∧ 0 ≤ h ∧ h ≤ 23 ∧ 0 ≤ mi ∧ mi ≤ 59 ∧ 0 ≤ s ∧ s ≤ 60) → ∃ b : Bool, ([.int .i64 y, .int .i64 mo, .int .i64 d, .int .i64 h, .int .i64 mi, .int .i64 s, .bool true] : List Value) = [.int .i64 y, .int .i64 mo, .int .i64 d, .int .i64 h, .int .i64 mi, .int .i64 s, .bool b] ∧ okM y mo d h mi s = !b ∧ W = W := fun hn => ⟨true, rfl, decide_eq_false hn, rfl⟩
    refine a_lss (ifd (fun hc => bad fun hx => by omega) fun c1 => ?_)
    refine a_gtr (ifd (fun hc => bad fun hx => by omega) fun c2 => ?_)
    refine a_lss (ifd (fun hc => bad fun hx => by omega) fun c3 => ?_)
    refine a_gtr (ifd (fun hc => bad fun hx => by omega) fun c4 => ?_)
    refine a_lss (ifd (fun hc => bad fun hx => by omega) fun c5 => ?_)
    refine length_spec (by omega) ?_
    refine a_gtr (ifd (fun hc => bad fun hx => by omega) fun c6 => ?_)
    refine a_lss (ifd (fun hc => bad fun hx => by omega) fun c7 => ?_)
    refine a_gtr (ifd (fun hc => bad fun hx => by omega) fun c8 => ?_)
    refine a_lss (ifd (fun hc => bad fun hx => by omega) fun c9 => ?_)
    refine a_gtr (ifd (fun hc => bad fun hx => by omega) fun c10 => ?_)
    refine a_lss (ifd (fun hc => bad fun hx => by omega) fun c11 => ?_)
    refine a_gtr ⟨_, rfl, ?_, rfl⟩
    unfold okM
    by_cases hs : 60 < s
    · rw [decide_eq_true hs, decide_eq_false fun hx => by omega]; rfl
    · rw [decide_eq_false hs, decide_eq_true (by omega)]; rfl
end
end Go.Proofs.YtififikdlcohpaaDoor
