/-
  DateOrder, DateBack: the walks.
-/
import Derived.Test.YtififikdlcohpaaDoorDtG
namespace Go.Proofs.YtififikdlcohpaaDoor
open Go Go.Ez Go.RowKit
set_option linter.unusedSimpArgs false
set_option linter.unusedVariables false
section
variable {w0 W W' : World} {G : Nat → Prop} {l R R1 : List As} {RR : Value → World → Prop}
theorem sec_of {t : Int} (h : within t = true) : (t % 86400).toNat < 86400 ∧ t / 86400 * 86400 + ((t % 86400).toNat : Int) = t := by
  obtain ⟨h0, h1⟩ := of_decide_eq_true h
  have s0 : 0 ≤ t % 86400 := by omega
  omega
theorem any_date {t : Int} {y mo d : Nat} (hw : within t = true) (h : DayIs (t / 86400) y mo d) : netP (dateS y mo d (t % 86400).toNat) = (t, 0) ∧ anyP (dateS y mo d (t % 86400).toNat) = (t, 0) := by
  obtain ⟨h1, h2⟩ := sec_of hw
  have e := net_date h h1 (by rw [h2]; exact hw)
  rw [h2] at e
  exact ⟨e, by unfold anyP; rw [e]; rfl⟩
/-- hbllaw5.DateOrder -/
theorem order_spec {a b : Int} (h : St w0 G l W) (k : ∀ W', St w0 G l W' → RR (.bool true) W') : CallF Tryd.prog 12 #[.int .i64 a, .int .i64 b] W RR := by
  refine sh12_calls ?_
  unfold sh12
  refine first5_spec h fun W h => ?_
  refine a_not (iff' ?_)
  have fin : ∀ W', St w0 G l W' → CallF Tryd.prog 24 #[] W' RR := fun W' h => first5_spec h k
  refine print_spec (t := a) h (fun _ => ?_) fun ha y mo d W hd h => ?_
  · refine a_ext0 (a_ext1 ?_)
    refine print_spec (t := b) h (fun _ => ?_) fun hb y' mo' d' W hd' h => ?_
    · exact a_ext0 (a_ext1 (w_neq (ifd_pos (by decide) (fin _ h))))
    · exact a_ext0 (a_ext1 (w_neq (ifd_pos (by decide) (fin _ h))))
  · refine a_ext0 (a_ext1 ?_)
    refine print_spec (t := b) h (fun _ => ?_) fun hb y' mo' d' W hd' h => ?_
    · exact a_ext0 (a_ext1 (w_neq (ifd_neg (by decide) (w_neq (ifd_pos (by decide) (fin _ h))))))
    · refine a_ext0 (a_ext1 (w_neq (ifd_neg (by decide) (w_neq (ifd_neg (by decide) ?_)))))
      refine any_spec h (by rw [dateS_len]; decide) fun W h => ?_
      rw [(any_date ha hd).2]
      refine a_ext0 (a_ext1 ?_)
      refine first5_spec h fun W h => ?_
      refine ift (a_lss (x_lssL (x_eqb ?_)))
      obtain ⟨a1, a2⟩ := sec_of ha
      obtain ⟨b1, b2⟩ := sec_of hb
      rw [date_order hd hd' a1 b1, a2, b2, beq_self_eq_true]
      refine ift (w_eql (ifd_pos rfl (w_eql ?_)))
      rw [decide_eq_true rfl]
      exact k W h
theorem digC_ten {n : Nat} (h : n < 100) : digL n 2 = [UInt8.ofNat (48 + n / 10), UInt8.ofNat (48 + n % 10)] := by
  unfold digL digL digL digC
  rw [Nat.pow_one, Nat.pow_zero, Nat.div_one, Nat.mod_eq_of_lt (show n / 10 < 10 by omega)]
/-- hbllaw5.DateBack -/
theorem back_spec {t hour minute : Int} (h : St w0 G l W) (k : ∀ W', St w0 G l W' → RR (.bool true) W') : CallF Tryd.prog 10 #[.int .i64 t, .int .i64 hour, .int .i64 minute] W RR := by
  refine sh10_calls ?_
  unfold sh10
  refine first5_spec h fun W h => ?_
  refine a_not (iff' ?_)
  have fin : ∀ W', St w0 G l W' → CallF Tryd.prog 24 #[] W' RR := fun W' h => first5_spec h k
  refine print_spec (t := t) h (fun ha => ?_) fun ha y mo d W hd h => ?_
  · refine a_ext0 (a_ext1 (w_neq (ifd_pos (by decide) ?_)))
    refine first5_spec h fun W h => ?_
    refine ift (w_eqlL (b := []) (ifd_pos rfl ?_))
    have hn := of_decide_eq_false ha
    refine a_lss (ifd (fun _ => k W h) fun hc => a_geq ?_)
    rw [decide_eq_true (by omega)]
    exact k W h
  obtain ⟨a1, a2⟩ := sec_of ha
  have enet := (any_date ha hd).1
  obtain ⟨f1, f2, f3, f4⟩ := hd.fits
  obtain ⟨t0, t1⟩ := of_decide_eq_true ha
  refine a_ext0 (a_ext1 (w_neq (ifd_neg (by decide) ?_)))
  refine net_spec h fun W h => ?_
  rw [enet]
  refine a_ext0 (a_ext1 (w_neq (ifd_neg (by simp) (w_neq (ifd_neg (by simp) ?_)))))
  refine x_len (w_neq (ifd_neg (by rw [dateS_len]; decide) ?_))
  refine a_lss (ifd (fun _ => fin _ h) fun h1 => a_gtr (ifd (fun _ => fin _ h) fun h2 => a_lss (ifd (fun _ => fin _ h) fun h3 => a_gtr (ifd (fun _ => fin _ h) fun h4 => ?_))))
  obtain ⟨hh, rfl⟩ := Int.eq_ofNat_of_zero_le (show 0 ≤ hour by omega)
  obtain ⟨mm, rfl⟩ := Int.eq_ofNat_of_zero_le (show 0 ≤ minute by omega)
  generalize hs : (t % 86400).toNat = s at *
  refine a_quo64 (by omega) (by omega) (by decide) (a_add64 (by omega) (by omega) ?_)
  rw [show (48 + (hh : Int) / 10) = ((48 + hh / 10 : Nat) : Int) by omega]
  refine v_byte Tryd.underlying3 Tryd.underlying5 (a_rem64 (by omega) (by decide) (a_add64 (by omega) (by omega) ?_))
  rw [show (48 + (hh : Int) % 10) = ((48 + hh % 10 : Nat) : Int) by omega]
  refine v_byte Tryd.underlying3 Tryd.underlying5 (a_quo64 (by omega) (by omega) (by decide) (a_add64 (by omega) (by omega) ?_))
  rw [show (48 + (mm : Int) / 10) = ((48 + mm / 10 : Nat) : Int) by omega]
  refine v_byte Tryd.underlying3 Tryd.underlying5 (a_rem64 (by omega) (by decide) (a_add64 (by omega) (by omega) ?_))
  rw [show (48 + (mm : Int) % 10) = ((48 + mm % 10 : Nat) : Int) by omega]
  refine v_byte Tryd.underlying3 Tryd.underlying5 ?_
  refine h.lit fun v W _ h => ?_
  refine x_str (l := digL hh 2 ++ 58 :: digL mm 2) (by
    have := h.osl (v := v)
    unfold By
    rw [digC_ten (by omega), digC_ten (n := mm) (by omega)]
    exact this) ?_
  replace h : St w0 G l W := h.to
  refine a_mul64 (by omega) (by omega) (a_mul64 (by omega) (by omega) (a_add64 (by omega) (by omega) ?_))
  have hoff : ((hh : Int) * 3600 + (mm : Int) * 60) = ((hh * 3600 + mm * 60 : Nat) : Int) := by omega
  have e1 : netP ((dateS y mo d s).take 19 ++ [45] ++ (digL hh 2 ++ 58 :: digL mm 2)) = if within (t + ((hh : Int) * 3600 + (mm : Int) * 60)) then (t + ((hh : Int) * 3600 + (mm : Int) * 60), 0) else (0, 1) := by
    rw [dateS_take, List.append_assoc, List.singleton_append, net_stem f1 f2 f3 (by omega) (by omega) (by omega), frac_no (by decide), zed_sign (.inr rfl) (by omega) (by omega)]
    unfold secondP
    rw [range_is hd a1, a2, if_neg (show ¬ (45 : UInt8) = 43 by decide)]
    rw [if_neg (by simp)]
    rw [show t - -1 * ((hh : Int) * 3600 + (mm : Int) * 60) = t + ((hh : Int) * 3600 + (mm : Int) * 60) by omega]
  have e2 : netP ((dateS y mo d s).take 19 ++ [43] ++ (digL hh 2 ++ 58 :: digL mm 2)) = if within (t - ((hh : Int) * 3600 + (mm : Int) * 60)) then (t - ((hh : Int) * 3600 + (mm : Int) * 60), 0) else (0, 1) := by
    rw [dateS_take, List.append_assoc, List.singleton_append, net_stem f1 f2 f3 (by omega) (by omega) (by omega), frac_no (by decide), zed_sign (.inl rfl) (by omega) (by omega)]
    unfold secondP
    rw [range_is hd a1, a2, if_neg (by simp)]
    simp only [if_true]
    rw [show t - 1 * ((hh : Int) * 3600 + (mm : Int) * 60) = t - ((hh : Int) * 3600 + (mm : Int) * 60) by omega]
  have e3 : netP ((dateS y mo d s).take 19 ++ [46, 50, 53] ++ [90]) = (t, 0) := by
    rw [dateS_take, List.append_assoc, net_stem f1 f2 f3 (by omega) (by omega) (by omega), show fractionP (([46, 50, 53] ++ [90] : Txt), false) = ([90], false) from frac_25, zed_Z]
    unfold secondP
    rw [range_is hd a1, a2, Int.sub_zero, ha]
    rfl
  have hlz : (digL hh 2 ++ 58 :: digL mm 2).length = 5 := by simp [digL_len]
  have hl19 : ((dateS y mo d s).take 19).length = 19 := by rw [List.length_take, dateS_len]; rfl
  generalize ((hh : Int) * 3600 + (mm : Int) * 60) = off at *
  generalize digL hh 2 ++ 58 :: digL mm 2 = z at *
  have ho : 0 ≤ off ∧ off ≤ 86400 := by omega
  refine x_cutH (hi := 19) (by rw [dateS_len]; decide) (a_cat (m := [45]) (by rw [hl19]; decide) (a_cat (by rw [List.length_append, hl19, hlz]; decide) ?_))
  refine net_spec h fun W h => ?_
  rw [e1]
  refine a_ext0 (a_ext1 ?_)
  refine x_cutH (hi := 19) (by rw [dateS_len]; decide) (a_cat (m := [43]) (by rw [hl19]; decide) (a_cat (by rw [List.length_append, hl19, hlz]; decide) ?_))
  refine net_spec h fun W h => ?_
  rw [e2]
  refine a_ext0 (a_ext1 ?_)
  refine x_cutH (hi := 19) (by rw [dateS_len]; decide) (a_cat (m := [46, 50, 53]) (by rw [hl19]; decide) (a_cat (m := [90]) (by rw [List.length_append, hl19]; decide) ?_))
  refine net_spec h fun W h => ?_
  rw [e3]
  refine a_ext0 (a_ext1 ?_)
  have w1 : within (t + off) = decide (t + off < 253402300800) := decide_eq_decide.2 ⟨fun h => h.2, fun h => ⟨by omega, h⟩⟩
  have w2 : within (t - off) = decide (off ≤ t) := decide_eq_decide.2 ⟨fun h => by omega, fun h => ⟨by omega, by omega⟩⟩
  rw [w1, w2]
  refine jni (fun vs W' => vs = [.int .i64 t, .int .i64 t, .int .i64 0] ∧ W' = W) ?_ ?_
  · rintro vs W' _ ⟨rfl, rfl⟩
    refine app3 ?_
    refine first5_spec h fun W h => ?_
    refine ift (w_eql (ifd_pos rfl (w_eql ?_)))
    rw [decide_eq_true rfl]
    exact k W h
  · refine w_eql (a_add64 (by omega) (by omega) (a_lss (x_neb ?_)))
    cases hc1 : decide (t + off < 253402300800)
    · refine iff' (w_eql (iff' ?_))
      cases hc2 : decide (off ≤ t)
      · have hn := of_decide_eq_false hc2
        refine w_eql (a_geq (x_neb ?_))
        rw [decide_eq_false hn]
        refine iff' (w_eql (iff' ?_))
        exact ⟨rfl, rfl⟩
      · have hn := of_decide_eq_true hc2
        refine w_eql (a_geq (x_neb ?_))
        rw [decide_eq_true hn]
        refine iff' (w_eql (ift (a_sub64 (by omega) (by omega) (w_neq (ifd_neg (by simp) ?_)))))
        exact ⟨rfl, rfl⟩
    · refine iff' (w_eql (ift (a_add64 (by omega) (by omega) (w_neq (ifd_neg (by simp) ?_)))))
      cases hc2 : decide (off ≤ t)
      · have hn := of_decide_eq_false hc2
        refine w_eql (a_geq (x_neb ?_))
        rw [decide_eq_false hn]
        refine iff' (w_eql (iff' ?_))
        exact ⟨rfl, rfl⟩
      · have hn := of_decide_eq_true hc2
        refine w_eql (a_geq (x_neb ?_))
        rw [decide_eq_true hn]
        refine iff' (w_eql (ift (a_sub64 (by omega) (by omega) (w_neq (ifd_neg (by simp) ?_)))))
        exact ⟨rfl, rfl⟩
end
end Go.Proofs.YtififikdlcohpaaDoor
