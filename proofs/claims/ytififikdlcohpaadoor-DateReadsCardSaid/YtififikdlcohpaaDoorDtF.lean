/-
  DateDays: day behind day: the walk.
-/
import Derived.Test.YtififikdlcohpaaDoorDtE
namespace Go.Ez
open Go
theorem mailP_ex : mailP [83, 117, 110, 44, 32, 48, 54, 32, 78, 111, 118, 32, 49, 57, 57, 52, 32, 48, 56, 58, 52, 57, 58, 51, 55, 32, 71, 77, 84] = (784111777, 0) := by decide +kernel
theorem netP_ex : netP [49, 57, 57, 52, 45, 49, 49, 45, 48, 54, 84, 48, 57, 58, 52, 57, 58, 51, 55, 43, 48, 49, 58, 48, 48] = (784111777, 0) := by decide +kernel
theorem okM_iff {y mo d h mi s : Int} : okM y mo d h mi s = true ↔ (1970 ≤ y ∧ y ≤ 9999 ∧ 1 ≤ mo ∧ mo ≤ 12 ∧ 1 ≤ d ∧ d ≤ lenM y mo) ∧ (0 ≤ h ∧ h ≤ 23 ∧ 0 ≤ mi ∧ mi ≤ 59 ∧ 0 ≤ s ∧ s ≤ 60) := by
  unfold okM; rw [decide_eq_true_eq]; constructor
  · rintro ⟨a, b, c, d, e, f, g⟩; exact ⟨⟨a, b, c, d, e, f⟩, g⟩
  · rintro ⟨⟨a, b, c, d, e, f⟩, g⟩; exact ⟨a, b, c, d, e, f, g⟩
def okD (y mo d : Int) : Bool := decide (1970 ≤ y ∧ y ≤ 9999 ∧ 1 ≤ mo ∧ mo ≤ 12 ∧ 1 ≤ d ∧ d ≤ lenM y mo)
def okT (h mi s : Int) : Bool := decide (0 ≤ h ∧ h ≤ 23 ∧ 0 ≤ mi ∧ mi ≤ 59 ∧ 0 ≤ s ∧ s ≤ 60)
theorem okM_eq (y mo d h mi s : Int) : okM y mo d h mi s = (okD y mo d && okT h mi s) := by
  rw [Bool.eq_iff_iff, okM_iff, Bool.and_eq_true]; unfold okD okT; rw [decide_eq_true_eq, decide_eq_true_eq]
theorem makeP_day {h mi s : Int} (y mo d : Int) (ht : okT h mi s = true) : makeP y mo d h mi s = if okD y mo d then (dayN y mo d * 86400 + h * 3600 + mi * 60 + min s 59, true) else (0, false) := by
  unfold makeP; rw [okM_eq, ht, Bool.and_true]; rfl
theorem day_next {y mo d : Int} (h : okD y mo d = true) :
    (okD y mo (d + 1) = true → dayN y mo (d + 1) = dayN y mo d + 1) ∧
    (okD y mo (d + 1) = false → okD y (mo + 1) 1 = true → dayN y (mo + 1) 1 = dayN y mo d + 1) ∧
    (okD y mo (d + 1) = false → okD y (mo + 1) 1 = false → okD (y + 1) 1 1 = true → dayN (y + 1) 1 1 = dayN y mo d + 1) ∧
    (okD y mo (d + 1) = false → okD y (mo + 1) 1 = false → okD (y + 1) 1 1 = false → y = 9999 ∧ mo = 12 ∧ d = 31) := by
  obtain ⟨y1, y2, m1, m2, d1, d2⟩ := of_decide_eq_true h
  have hd : okD y mo (d + 1) = false → d = lenM y mo := fun hn => by
    have := of_decide_eq_false hn
    omega
  have hm : okD y (mo + 1) 1 = false → mo = 12 := fun hn => by
    have := of_decide_eq_false hn
    have hl := lenM_ge y (mo + 1)
    omega
  obtain ⟨i, rfl⟩ : ∃ i : Nat, mo = (i + 1 : Nat) := ⟨(mo - 1).toNat, by omega⟩
  have e1 : (((i + 1 : Nat) : Int) - 1).toNat = i := by omega
  have e2 : ((((i + 1 : Nat) : Int) + 1) - 1).toNat = i + 1 := by omega
  have e3 : sumL y (i + 1) = sumL y i + lenM y ((i + 1 : Nat) : Int) := rfl
  refine ⟨fun _ => ?_, fun a b => ?_, fun a b c => ?_, fun a b c => ?_⟩
  · unfold dayN; omega
  · have := hd a
    unfold dayN; rw [e1, e2, e3]; omega
  · have h1 := hd a
    have h2 := hm b
    obtain rfl : i = 11 := by omega
    have e4 := sumL_year y
    have e5 := firstD_next (y := y) (by omega)
    unfold dayN
    rw [show ((1 : Int) - 1).toNat = 0 from rfl, e1, show sumL (y + 1) 0 = 0 from rfl]
    rw [show (12 : Nat) = 11 + 1 from rfl, e3] at e4
    omega
  · have h1 := hd a
    have h2 := hm b
    have h3 := of_decide_eq_false c
    have hl := lenM_ge (y + 1) 1
    have h4 := lenM_dec y
    rw [h2] at h1
    omega
end Go.Ez
namespace Go.Proofs.YtififikdlcohpaaDoor
open Go Go.Ez Go.RowKit
set_option linter.unusedSimpArgs false
set_option linter.unusedVariables false
section
variable {w0 W W' : World} {G : Nat → Prop} {l R R1 : List As} {RR : Value → World → Prop}
/-- hbllaw5.first -/
theorem first5_spec (h : St w0 G l W) (k : ∀ W', St w0 G l W' → RR (.bool true) W') : CallF Tryd.prog 24 #[] W RR := by
  refine sh24_calls ?_
  unfold sh24
  refine mail_spec (s := [83, 117, 110, 44, 32, 48, 54, 32, 78, 111, 118, 32, 49, 57, 57, 52, 32, 48, 56, 58, 52, 57, 58, 51, 55, 32, 71, 77, 84]) h (by decide) fun W h => ?_
  rw [mailP_ex]
  refine a_ext0 (a_ext1 ?_)
  refine net_spec (s := [49, 57, 57, 52, 45, 49, 49, 45, 48, 54, 84, 48, 57, 58, 52, 57, 58, 51, 55, 43, 48, 49, 58, 48, 48]) h fun W h => ?_
  rw [netP_ex]
  refine a_ext0 (a_ext1 ?_)
  refine w_eql (ifd_pos rfl (w_eql (ifd_pos rfl (w_eql (ifd_pos rfl (w_eql ?_))))))
  exact k W h
/-- hbllaw5.DateDays -/
theorem days_spec {y mo d : Int} (h : St w0 G l W) (k : ∀ W', St w0 G l W' → RR (.bool true) W') : CallF Tryd.prog 8 #[.int .i64 y, .int .i64 mo, .int .i64 d] W RR := by
  refine sh8_calls ?_
  unfold sh8
  refine first5_spec h fun W h => ?_
  refine a_not (iff' ?_)
  refine make_spec ?_
  rw [makeP_day y mo d (h := 0) (mi := 0) (s := 0) (by decide)]
  refine a_ext0 (a_ext1 ?_)
  cases hok : okD y mo d
  · refine a_not (ift ?_)
    refine make_spec ?_
    rw [makeP_day y mo d (h := 23) (mi := 59) (s := 59) (by decide), hok]
    refine a_ext0 (a_ext1 ?_)
    refine first5_spec h fun W h => ?_
    refine ift (w_eql (ifd_pos rfl (a_not ?_)))
    exact k W h
  refine a_not (iff' ?_)
  obtain ⟨y1, y2, m1, m2, d1, d2⟩ := of_decide_eq_true hok
  have hl := lenM_le y mo
  obtain ⟨n1, n2, n3, n4⟩ := day_next hok
  have hda : 0 ≤ dayN y mo d ∧ dayN y mo d ≤ 3000000 := by
    have h1 := sumL_ge y (mo - 1).toNat
    have h2 := sumL_le y (mo - 1).toNat
    have h3 := firstD_mono (y := y) (z := 9999) (by omega) (by omega)
    have h4 := (firstD_rng (y := y) (by omega) (by omega)).1
    rw [show firstD 9999 = 2932532 by decide] at h3
    unfold dayN; omega
  have e0 : dayN y mo d * 86400 + 0 * 3600 + 0 * 60 + min 0 59 = dayN y mo d * 86400 := by omega
  simp only [if_true, e0]
  refine a_add64 (by omega) (by omega) (make_spec ?_)
  rw [makeP_day y mo (d + 1) (h := 0) (mi := 0) (s := 0) (by decide)]
  refine a_ext0 (a_ext1 ?_)
  refine jni (fun vs W' => ∃ (nd b : Int) (yes : Bool), vs = [.int .i64 y, .int .i64 mo, .int .i64 d, .int .i64 (dayN y mo d * 86400), .int .i64 nd, .int .i64 b, .bool yes] ∧ (yes = true → b = dayN y mo d * 86400 + 86400) ∧ (yes = false → nd = 1 ∧ okD y mo (d + 1) = false ∧ okD y (mo + 1) 1 = false) ∧ W' = W) ?_ ?_
  · rintro vs W' _ ⟨nd, b, yes, rfl, c1, c2, rfl⟩
    refine app7 ?_
    refine jni (fun vs W'' => ∃ (b : Int) (yes : Bool), vs = [.int .i64 y, .int .i64 mo, .int .i64 d, .int .i64 (dayN y mo d * 86400), .int .i64 b, .bool yes] ∧ (yes = true → b = dayN y mo d * 86400 + 86400) ∧ (yes = false → y = 9999 ∧ mo = 12 ∧ d = 31) ∧ W'' = W') ?_ ?_
    · rintro vs W'' _ ⟨b, yes, rfl, c1, c2, rfl⟩
      refine app6 ?_
      refine make_spec ?_
      rw [makeP_day y mo d (h := 23) (mi := 59) (s := 60) (by decide), hok]
      refine a_ext0 (a_ext1 ?_)
      refine make_spec ?_
      rw [makeP_day y mo d (h := 23) (mi := 59) (s := 59) (by decide), hok]
      refine a_ext0 (a_ext1 ?_)
      refine first5_spec h fun W h => ?_
      have e60 : dayN y mo d * 86400 + 23 * 3600 + 59 * 60 + min 60 59 = dayN y mo d * 86400 + 86399 := by omega
      have e59 : dayN y mo d * 86400 + 23 * 3600 + 59 * 60 + min 59 59 = dayN y mo d * 86400 + 86399 := by omega
      simp only [if_true, e60, e59]
      refine ift ?_
      cases yes
      · obtain ⟨g1, g2, g3⟩ := c2 rfl
        subst g1; subst g2; subst g3
        refine iff' (a_not (ift ?_))
        refine w_eql (ifd_pos rfl ?_)
        refine w_eql (ifd_pos rfl ?_)
        refine w_eql (ifd_pos rfl ?_)
        refine ift (ift (w_eql (ifd_pos rfl ?_)))
        refine a_add64 (by omega) (by omega) (w_eql (ifd_pos rfl (a_leq (ifd_pos (by omega) (a_leq ?_)))))
        exact k W h
      · refine ift (a_add64 (by omega) (by omega) (w_eql (ifd_pos (c1 rfl) (ift (ift (w_eql (ifd_pos rfl ?_)))))))
        refine a_add64 (by omega) (by omega) (w_eql (ifd_pos rfl (a_leq (ifd_pos (by omega) (a_leq ?_)))))
        rw [decide_eq_true m2]
        exact k W h
    · refine a_not (ifnb (fun hy => ?_) fun hy => ?_)
      · obtain ⟨g1, g2, g3⟩ := c2 hy
        subst g1
        refine a_add64 (by omega) (by omega) (make_spec ?_)
        rw [makeP_day (y + 1) 1 1 (h := 0) (mi := 0) (s := 0) (by decide)]
        refine a_ext0 (a_ext1 ?_)
        cases hok3 : okD (y + 1) 1 1
        · exact ⟨_, _, rfl, (fun h => by cases h), fun _ => n4 g2 g3 hok3, rfl⟩
        · refine ⟨_, _, rfl, fun _ => ?_, (fun h => by cases h), rfl⟩
          have := n3 g2 g3 hok3
          simp only [if_true]
          omega
      · exact ⟨b, yes, rfl, c1, (fun h => by rw [hy] at h; cases h), rfl⟩
  · cases hok1 : okD y mo (d + 1)
    · refine a_not (ift (a_add64 (by omega) (by omega) (make_spec ?_)))
      rw [makeP_day y (mo + 1) 1 (h := 0) (mi := 0) (s := 0) (by decide)]
      refine a_ext0 (a_ext1 ?_)
      cases hok2 : okD y (mo + 1) 1
      · exact ⟨_, _, _, rfl, (fun h => by cases h), fun _ => ⟨rfl, by first | rfl | exact hok1, by first | rfl | exact hok2⟩, rfl⟩
      · refine ⟨_, _, _, rfl, fun _ => ?_, (fun h => by cases h), rfl⟩
        have := n2 hok1 hok2
        simp only [if_true]
        omega
    · refine a_not (iff' ⟨_, _, _, rfl, fun _ => ?_, (fun h => by cases h), rfl⟩)
      have := n1 hok1
      simp only [if_true]
      omega
end
end Go.Proofs.YtififikdlcohpaaDoor
