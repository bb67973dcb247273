/-
  DateMails: the walk.
-/
import Derived.Test.YtififikdlcohpaaDoorDtH
import Derived.Test.YtififikdlcohpaaDoorDtI
namespace Go.Proofs.YtififikdlcohpaaDoor
open Go Go.Ez Go.RowKit
set_option linter.unusedSimpArgs false
set_option linter.unusedVariables false
section
variable {w0 W W' : World} {G : Nat → Prop} {l R R1 : List As} {RR : Value → World → Prop}
theorem two_lit (n : Nat) : digL n 2 = [UInt8.ofNat (48 + n / 10 % 10), UInt8.ofNat (48 + n % 10)] := by
  unfold digL digL digL digC
  rw [Nat.pow_one, Nat.pow_zero, Nat.div_one]
/-- hbllaw5.two -/
theorem two_spec {n : Nat} (h : St w0 G l W) (hn : n ≤ 100000) (k : ∀ W', St w0 G l W' → RR (strV (digL n 2)) W') : CallF Tryd.prog 26 #[nV .i64 n] W RR := by
  refine sh26_calls ?_
  unfold sh26
  refine a_quo64 (by omega) (by omega) (by decide) (a_rem64 (by omega) (by decide) (a_add64 (by omega) (by omega) ?_))
  rw [show (48 + (n : Int) / 10 % 10) = ((48 + n / 10 % 10 : Nat) : Int) by omega]
  refine v_byte Tryd.underlying3 Tryd.underlying5 (a_rem64 (by omega) (by decide) (a_add64 (by omega) (by omega) ?_))
  rw [show (48 + (n : Int) % 10) = ((48 + n % 10 : Nat) : Int) by omega]
  refine v_byte Tryd.underlying3 Tryd.underlying5 ?_
  refine h.lit fun v W _ h => ?_
  refine x_str (l := digL n 2) (by rw [two_lit]; exact h.osl (v := v)) ?_
  exact k W h.to
theorem offs_at {i : Nat} (h : i < 10) : (offsT.map fun n => Value.int .i64 n)[i]? = some (.int .i64 (offsT.getD i 0)) ∧ -8 ≤ offsT.getD i 0 ∧ offsT.getD i 0 ≤ 0 := by
  match i, h with
  | 0, _ | 1, _ | 2, _ | 3, _ | 4, _ | 5, _ | 6, _ | 7, _ | 8, _ | 9, _ => exact ⟨rfl, by decide, by decide⟩
theorem str_at {ls : List Txt} {i : Nat} (h : i < ls.length) : (ls.map strV)[i]? = some (strV (ls.getD i [])) := by
  rw [List.getElem?_map, List.getD_eq_getElem?_getD, List.getElem?_eq_getElem h]; rfl
theorem month_len (i : Nat) (hi : i < 12) : (monthsL.getD i []).length = 3 := by
  match i, hi with
  | 0, _ | 1, _ | 2, _ | 3, _ | 4, _ | 5, _ | 6, _ | 7, _ | 8, _ | 9, _ | 10, _ | 11, _ => rfl
theorem zone_len (i : Nat) (hi : i < 10) : (zonesT.getD i []).length ≤ 5 := by
  match i, hi with
  | 0, _ | 1, _ | 2, _ | 3, _ | 4, _ | 5, _ | 6, _ | 7, _ | 8, _ | 9, _ => decide
/-- hbllaw5.DateMails -/
theorem mails_spec {d mo y hh mi s zone : Int} (h : St w0 G l W) (k : ∀ W', St w0 G l W' → RR (.bool true) W') : CallF Tryd.prog 9 #[.int .i64 d, .int .i64 mo, .int .i64 y, .int .i64 hh, .int .i64 mi, .int .i64 s, .int .i64 zone] W RR := by
  refine sh9_calls ?_
  unfold sh9
  refine first5_spec h fun W h => ?_
  refine a_not (iff' ?_)
  refine jni (fun vs W' => ∃ b : Bool, vs = [.int .i64 d, .int .i64 mo, .int .i64 y, .int .i64 hh, .int .i64 mi, .int .i64 s, .int .i64 zone, .bool b] ∧ (b = false → 1 ≤ d ∧ d ≤ 99 ∧ 1 ≤ mo ∧ mo ≤ 12 ∧ 1970 ≤ y ∧ y ≤ 2068 ∧ 0 ≤ hh ∧ hh ≤ 99 ∧ 0 ≤ mi ∧ mi ≤ 99 ∧ 0 ≤ s ∧ s ≤ 99 ∧ 0 ≤ zone ∧ zone ≤ 9) ∧ W' = W) ?_ ?_
  rotate_left
  · have bad : ∃ b : Bool, ([.int .i64 d, .int .i64 mo, .int .i64 y, .int .i64 hh, .int .i64 mi, .int .i64 s, .int .i64 zone, .bool true] : List Value) = [.int .i64 d, .int .i64 mo, .int .i64 y, .int .i64 hh, .int .i64 mi, .int .i64 s, .int .i64 zone, .bool b] ∧ (b = false → 1 ≤ d ∧ d ≤ 99 ∧ 1 ≤ mo ∧ mo ≤ 12 ∧ 1970 ≤ y ∧ y ≤ 2068 ∧ 0 ≤ hh ∧ hh ≤ 99 ∧ 0 ≤ mi ∧ mi ≤ 99 ∧ 0 ≤ s ∧ s ≤ 99 ∧ 0 ≤ zone ∧ zone ≤ 9) ∧ W = W := ⟨true, rfl, (fun h => by cases h), rfl⟩
    refine a_lss (ifd (fun hc => bad) fun c1 => ?_)
    refine a_gtr (ifd (fun hc => bad) fun c2 => ?_)
    refine a_lss (ifd (fun hc => bad) fun c3 => ?_)
    refine a_gtr (ifd (fun hc => bad) fun c4 => ?_)
    refine a_lss (ifd (fun hc => bad) fun c5 => ?_)
    refine a_gtr (ifd (fun hc => bad) fun c6 => ?_)
    refine a_lss (ifd (fun hc => bad) fun c7 => ?_)
    refine a_gtr (ifd (fun hc => bad) fun c8 => ?_)
    refine a_lss (ifd (fun hc => bad) fun c9 => ?_)
    refine a_gtr (ifd (fun hc => bad) fun c10 => ?_)
    refine a_lss (ifd (fun hc => bad) fun c11 => ?_)
    refine a_gtr (ifd (fun hc => bad) fun c12 => ?_)
    refine a_lss (ifd (fun hc => bad) fun c13 => ?_)
    refine a_gtr ⟨_, rfl, (fun hb => ?_), rfl⟩
    have := of_decide_eq_false hb
    omega
  rintro vs W' _ ⟨b, rfl, hb, rfl⟩
  refine app8 ?_
  refine ifb (fun _ => first5_spec h k) fun hbf => ?_
  obtain ⟨d1, d2, m1, m2, y1, y2, h1, h2, i1, i2, s1, s2, z1, z2⟩ := hb hbf
  obtain ⟨d, rfl⟩ := Int.eq_ofNat_of_zero_le (show 0 ≤ d by omega)
  obtain ⟨m, rfl⟩ : ∃ m : Nat, mo = (m + 1 : Nat) := ⟨(mo - 1).toNat, by omega⟩
  obtain ⟨y, rfl⟩ := Int.eq_ofNat_of_zero_le (show 0 ≤ y by omega)
  obtain ⟨hh, rfl⟩ := Int.eq_ofNat_of_zero_le h1
  obtain ⟨mi, rfl⟩ := Int.eq_ofNat_of_zero_le i1
  obtain ⟨s, rfl⟩ := Int.eq_ofNat_of_zero_le s1
  obtain ⟨z, rfl⟩ := Int.eq_ofNat_of_zero_le z1
  refine h.lit fun v1 W _ h => ?_
  replace h : St w0 G (Ky v1 (StrO monthsL) :: l) W := h
  refine h.lit fun v2 W _ h => ?_
  replace h : St w0 G (Ky v2 (StrO zonesT) :: Ky v1 (StrO monthsL) :: l) W := h
  refine h.lit fun v3 W _ h => ?_
  obtain ⟨o1, o2, o3⟩ := offs_at (i := z) (by omega)
  refine x_at (h.osl (v := v3)) o1 (a_mul64 (by omega) (by omega) ?_)
  replace h : St w0 G (Ky v2 (StrO zonesT) :: Ky v1 (StrO monthsL) :: l) W := h.to
  refine jni (fun vs W' => vs = [nV .i64 d, nV .i64 (m + 1), nV .i64 y, nV .i64 hh, nV .i64 mi, nV .i64 s, nV .i64 z, v1, v2, .int .i64 (shiftT z)] ∧ W' = W) ?_ ?_
  rotate_left
  · refine w_eql (ifd (fun hc => ⟨?_, rfl⟩) fun hc => ⟨?_, rfl⟩)
    · unfold shiftT; rw [if_pos (by omega)]
    · unfold shiftT; rw [if_neg (by omega)]
  rintro vs W' _ ⟨rfl, rfl⟩
  refine app10 ?_
  obtain ⟨sh1, sh2⟩ := shiftT_rng z (by omega)
  have ml := month_len m (by omega)
  have zl := zone_len z (by omega)
  refine make_spec ?_
  refine a_ext0 (a_ext1 ?_)
  refine a_quo64 (by omega) (by omega) (by decide) ?_
  rw [show ((y : Int) / 100) = ((y / 100 : Nat) : Int) by omega]
  refine two_spec h (by omega) fun W h => two_spec h (by omega) fun W h => ?_
  refine a_cat (by simp [digL_len]) ?_
  refine ⟨St w0 G (Ky v2 (StrO zonesT) :: Ky v1 (StrO monthsL) :: l), h.drew, ?_⟩
  replace h := h.drew
  refine a_sub64 (by omega) (by omega) ?_
  rw [show (((m + 1 : Nat) : Int) - 1) = (m : Int) by omega]
  refine x_sat (h.osl (v := v1)) (fun w hw => hw.osl (v := v1)) (str_at (show m < 12 by omega)) ?_
  refine two_spec h (by omega) fun W h => ⟨h, ?_⟩
  refine a_cat (m := [32]) (by simp [digL_len]) (a_cat (by simp only [List.length_append, List.length_cons, List.length_nil, digL_len, ml]; omega) (a_cat (m := [32]) (by simp only [List.length_append, List.length_cons, List.length_nil, digL_len, ml]; omega) ?_))
  refine ⟨St w0 G (Ky v2 (StrO zonesT) :: Ky v1 (StrO monthsL) :: l), h.drew, ?_⟩
  replace h := h.drew
  refine x_sat (h.osl (v := v2)) (fun w hw => hw.osl (v := v2)) (str_at (show z < 10 by omega)) ?_
  refine two_spec h (by omega) fun W h => ⟨h, ?_⟩
  refine a_cat (l := [32]) (by simp [digL_len]) (a_cat (m := [58]) (by simp [digL_len]) ?_)
  refine two_spec h (by omega) fun W h => ⟨h, ?_⟩
  refine a_cat (by simp [digL_len]) (a_cat (m := [58]) (by simp [digL_len]) ?_)
  refine two_spec h (by omega) fun W h => ⟨h, ?_⟩
  refine a_cat (by simp [digL_len]) (a_cat (m := [32]) (by simp [digL_len]) (a_cat (by simp only [List.length_append, List.length_cons, List.length_nil, digL_len]; omega) ?_))
  -- the three texts
  have eT : ∀ Y : Txt, digL d 2 ++ [32] ++ monthsL.getD m [] ++ [32] ++ Y ++ ([32] ++ digL hh 2 ++ [58] ++ digL mi 2 ++ [58] ++ digL s 2 ++ [32] ++ zonesT.getD z []) = digL d 2 ++ 32 :: (monthsL.getD m [] ++ 32 :: (Y ++ tailM hh mi s z)) := fun Y => by simp [tailM]
  have lenT : (digL d 2 ++ [32] ++ monthsL.getD m [] ++ [32] : Txt).length = 7 := by simp only [List.length_append, List.length_cons, List.length_nil, digL_len, ml]
  have lenU : ([32] ++ digL hh 2 ++ [58] ++ digL mi 2 ++ [58] ++ digL s 2 ++ [32] ++ zonesT.getD z [] : Txt).length ≤ 16 := by simp only [List.length_append, List.length_cons, List.length_nil, digL_len]; omega
  have lenY : (digL (y / 100) 2 ++ digL y 2).length = 4 := by simp [digL_len]
  have A1 : mailP (digL d 2 ++ [32] ++ monthsL.getD m [] ++ [32] ++ (digL (y / 100) 2 ++ digL y 2) ++ ([32] ++ digL hh 2 ++ [58] ++ digL mi 2 ++ [58] ++ digL s 2 ++ [32] ++ zonesT.getD z [])) = rangeP y (m + 1 : Nat) d hh mi s (shiftT z) := by
    rw [eT, mailP_T, wday_dig]
    exact mailT_told (by omega) (by omega) (by omega) (by omega) (by omega) (by omega) fun r => by rw [List.append_assoc]; exact year_four (by omega) r
  have A2 : mailP ([84, 117, 101, 44, 32] ++ (digL d 2 ++ [32] ++ monthsL.getD m [] ++ [32]) ++ digL y 2 ++ ([32] ++ digL hh 2 ++ [58] ++ digL mi 2 ++ [58] ++ digL s 2 ++ [32] ++ zonesT.getD z [])) = rangeP y (m + 1 : Nat) d hh mi s (shiftT z) := by
    have e := eT (digL y 2)
    rw [List.append_assoc [84, 117, 101, 44, 32], List.append_assoc [84, 117, 101, 44, 32], e, mailP_T, wday_tue]
    exact mailT_told (by omega) (by omega) (by omega) (by omega) (by omega) (by omega) fun r => year_two (by omega) (by omega) r
  have A3 : mailP ([84, 117, 101, 115, 100, 97, 121, 44, 32] ++ (digL d 2 ++ [32] ++ monthsL.getD m [] ++ [32]) ++ (digL (y / 100) 2 ++ digL y 2) ++ ([32] ++ digL hh 2 ++ [58] ++ digL mi 2 ++ [58] ++ digL s 2 ++ [32] ++ zonesT.getD z [])) = (0, 4) := by
    rw [List.append_assoc, List.append_assoc, mailP_T]
    exact mailT_bad (wday_tuesday _)
  generalize digL d 2 ++ [32] ++ monthsL.getD m [] ++ [32] = T at *
  generalize digL (y / 100) 2 ++ digL y 2 = Y at *
  generalize [32] ++ digL hh 2 ++ [58] ++ digL mi 2 ++ [58] ++ digL s 2 ++ [32] ++ zonesT.getD z [] = U at *
  refine a_cat (by omega) (a_cat (by rw [List.length_append]; omega) ?_)
  refine mail_spec h (by simp only [List.length_append]; omega) fun W h => ?_
  rw [A1]
  refine a_ext0 (a_ext1 ?_)
  refine a_cat (l := [84, 117, 101, 44, 32]) (by rw [lenT]; decide) ?_
  refine two_spec h (by omega) fun W h => ?_
  refine a_cat (by simp [digL_len]; omega) (a_cat (by simp [digL_len]; omega) ?_)
  refine mail_spec h (by simp [digL_len]; omega) fun W h => ?_
  rw [A2]
  refine a_ext0 (a_ext1 ?_)
  refine a_cat (l := [84, 117, 101, 115, 100, 97, 121, 44, 32]) (by rw [lenT]; decide) (a_cat (by simp; omega) (a_cat (by simp; omega) ?_))
  refine mail_spec h (by simp; omega) fun W h => ?_
  rw [A3]
  refine a_ext0 (a_ext1 ?_)
  refine w_neq (ifd_neg (by simp) (w_neq (ifd_neg (by simp) (w_neq (ifd_neg (by simp) ?_)))))
  have mr := makeP_rng y (m + 1 : Nat) d hh mi s
  have mk1 : (makeP y (m + 1 : Nat) d hh mi s).2 = true → (makeP y (m + 1 : Nat) d hh mi s).1 ≤ 100000000000 := fun hm => by
    unfold makeP at hm ⊢
    cases hok : okM (y : Int) ((m + 1 : Nat) : Int) d hh mi s
    · simp
    · obtain ⟨g1, g2, g3, g4, g5, g6, g7, g8, g9, g10, g11, g12⟩ := of_decide_eq_true hok
      have hl := lenM_le y ((m + 1 : Nat) : Int)
      have f1 := firstD_mono (y := y) (z := 2068) (by omega) (by omega)
      rw [show firstD 2068 = 35794 by decide] at f1
      have q2 := sumL_le y (((m + 1 : Nat) : Int) - 1).toNat
      simp only [secN, dayN, if_true]
      omega
  unfold rangeP
  generalize makeP (y : Int) ((m + 1 : Nat) : Int) d hh mi s = M at *
  replace h : St w0 G l W := h.to
  cases hM : M.2
  · refine a_not (ift ?_)
    refine first5_spec h fun W h => ift ?_
    refine w_eql ?_
    exact k W h
  · have mk := mk1 hM
    refine a_not (iff' (a_sub64 (by omega) (by omega) (a_lss (ifd (fun hc => ?_) fun hc => ?_))))
    · have : within (M.1 - shiftT z) = false := decide_eq_false (by omega)
      rw [this]
      refine first5_spec h fun W h => ift ?_
      refine w_eql ?_
      exact k W h
    · have : within (M.1 - shiftT z) = true := decide_eq_true ⟨by omega, by omega⟩
      rw [this]
      refine first5_spec h fun W h => ift ?_
      refine w_eql (ifd_pos rfl (a_sub64 (by omega) (by omega) (w_eql ?_)))
      simp only [Bool.and_self, if_true, decide_true]
      exact k W h
end
end Go.Proofs.YtififikdlcohpaaDoor
