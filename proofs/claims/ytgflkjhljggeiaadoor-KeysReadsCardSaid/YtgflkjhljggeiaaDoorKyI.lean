/-
  KEYS: the document's functions: names, numbers, digits, parts, what keys begin with.
-/
import Derived.Test.YtgflkjhljggeiaaDoorKyH
namespace Go.Proofs.YtgflkjhljggeiaaDoor
open Go Go.Ez Go.RowKit Go.Lib
set_option linter.unusedSimpArgs false
set_option linter.unusedVariables false
theorem dgs_set (z c : Value) (m : Nat) (D : List Value) : (List.replicate (m + 1) z ++ D).set m c = List.replicate m z ++ c :: D := by
  rw [List.set_append_left _ _ (by simp), List.replicate_succ', List.set_append_right _ _ (by simp)]
  simp
section
variable {w0 W W' : World} {l R : List As} {RR : Value → World → Prop} {t s : Txt} {c : UInt8} {b n : Nat} {v : Value}
/-- hblref14.Name -/
theorem rname_spec (hs : s.length ≤ 9223372036854775807) (k : RR (.bool (nameS s)) W) : CallF Tryd.prog 15 #[strV s] W RR := by
  refine sh15_calls ?_
  unfold sh15
  refine lpx (α := Nat) (fun i => [nV .i64 i]) (fun i W' => i ≤ s.length ∧ (∀ c ∈ s.take i, nameC c) ∧ W' = W) (fun i => s.length - i) 0 (fun _ => rfl) rfl ⟨Nat.zero_le _, by simp, rfl⟩ ?_
  rintro next i W1 hnext ⟨hi, hall, rfl⟩
  refine app1 ?_
  refine x_len (a_lss (ifd (fun hc => ?_) fun hc => ?_))
  · have hil : i < s.length := by omega
    have ga : s[i]? = some s[i] := List.getElem?_eq_getElem hil
    generalize s[i] = c at ga
    have hmem : c ∈ s := List.mem_of_getElem? ga
    have no : ¬ nameC c → RR (.bool false) W1 := fun hn => by
      have : nameS s = false := decide_eq_false fun hh => hn (hh.1 c hmem)
      rw [this] at k; exact k
    refine x_index ga ?_
    refine jni (fun vs W' => vs = [strV s, nV .i64 i] ∧ nameC c ∧ W' = W1) ?_ ?_
    · rintro vs W' _ ⟨rfl, hn, rfl⟩
      refine app2 ?_
      refine a_add64 (by omega) (by omega) ⟨rfl, ?_⟩
      rw [show ((i : Int) + 1) = ((i + 1 : Nat) : Int) by push_cast; rfl]
      refine hnext (i + 1) _ (by omega) ⟨by omega, fun d hd => ?_, rfl⟩
      rw [List.take_add_one, ga, List.mem_append] at hd
      rcases hd with hd | hd
      · exact hall d hd
      · rw [List.mem_singleton.1 hd]; exact hn
    · have e45 : ((c.toNat : Int) = 45) ↔ c.toNat = 45 := by omega
      refine a_lss (ifd (fun g1 => ?_) fun g1 => a_gtr (ifd (fun g2 => ?_) fun g2 => ⟨rfl, .inl (by omega), rfl⟩))
      all_goals
        refine a_lss (ifd (fun g3 => ?_) fun g3 => a_gtr (ifd (fun g4 => ?_) fun g4 => ⟨rfl, .inr (.inl (by omega)), rfl⟩))
        all_goals
          refine w_neq (ifd (fun g5 => no ?_) fun g5 => ⟨rfl, .inr (.inr (by omega)), rfl⟩)
          unfold nameC
          omega
  · have hi2 : i = s.length := by omega
    rw [hi2, List.take_length] at hall
    refine x_len (a_geq (ifd (fun hne => x_len (a_leq ?_)) fun heq => ?_))
    · have : decide ((s.length : Int) ≤ 20) = nameS s := by
        unfold nameS
        exact decide_eq_decide.2 ⟨fun hh => ⟨hall, fun e => by rw [e] at hne; simp at hne, by omega⟩, fun hh => by have := hh.2.2; omega⟩
      rw [this]; exact k
    · have : nameS s = false := decide_eq_false fun hh => hh.2.1 (List.eq_nil_of_length_eq_zero (by omega))
      rw [this] at k; exact k
theorem sumD_rng : ∀ (l : Txt) (n : Int), 0 ≤ n → l.all isDg = true → 0 ≤ sumD l n ∧ sumD l n < (n + 1) * (10 ^ l.length : Nat)
  | [], n, h, _ => by simp [sumD]; omega
  | c :: l, n, h, hd => by
    rw [List.all_cons, Bool.and_eq_true] at hd
    have hc := of_decide_eq_true hd.1
    have ih := sumD_rng l (10 * n + ((c.toNat - 48 : Nat) : Int)) (by omega) hd.2
    refine ⟨ih.1, Int.lt_of_lt_of_le ih.2 ?_⟩
    have hle : 10 * n + ((c.toNat - 48 : Nat) : Int) + 1 ≤ (n + 1) * 10 := by omega
    have h1 := Int.mul_le_mul_of_nonneg_right hle (Int.natCast_nonneg (10 ^ l.length))
    rw [List.length_cons, Nat.pow_succ, Int.natCast_mul]
    generalize ((10 ^ l.length : Nat) : Int) = P at *
    have e : (n + 1) * (P * ((10 : Nat) : Int)) = (n + 1) * 10 * P := by
      rw [Int.mul_comm P, ← Int.mul_assoc]; rfl
    rw [e]; exact h1
theorem sumD_snoc (l : Txt) (c : UInt8) (n : Int) : sumD (l ++ [c]) n = 10 * sumD l n + ((c.toNat - 48 : Nat) : Int) := by
  induction l generalizing n with
  | nil => rfl
  | cons a l ih => exact ih _
/-- hblref14.number -/
theorem rnumb_spec (hs : s.length ≤ 1000000) (k : RR (.int .i64 (numD s)) W) : CallF Tryd.prog 32 #[strV s] W RR := by
  refine sh32_calls ?_
  unfold sh32
  have bad : ¬ (s.length = 6 ∧ s.all isDg = true) → RR (.int .i64 (-1)) W := fun hn => by
    rw [show numD s = -1 by unfold numD; rw [if_neg hn]] at k; exact k
  refine lpx (α := Nat) (fun i => [nV .i64 i]) (fun i W' => i ≤ s.length ∧ (s.take i).all isDg = true ∧ W' = W) (fun i => s.length - i) 0 (fun _ => rfl) rfl ⟨Nat.zero_le _, by simp, rfl⟩ ?_
  rintro next i W1 hnext ⟨hi, hall, rfl⟩
  refine app1 ?_
  refine x_len (a_lss (ifd (fun hc => ?_) fun hc => ?_))
  · have hil : i < s.length := by omega
    have ga : s[i]? = some s[i] := List.getElem?_eq_getElem hil
    generalize s[i] = c at ga
    have hmem : c ∈ s := List.mem_of_getElem? ga
    have no : ¬ (48 ≤ c.toNat ∧ c.toNat ≤ 57) → RR (.int .i64 (-1)) W1 := fun hn => bad fun hh => hn (of_decide_eq_true (List.all_eq_true.1 hh.2 c hmem))
    refine x_index ga (a_lss (ifd (fun g1 => no (by omega)) fun g1 => ?_))
    refine x_index ga (a_gtr (ifd (fun g2 => no (by omega)) fun g2 => ?_))
    refine a_add64 (by omega) (by omega) ⟨rfl, ?_⟩
    rw [show ((i : Int) + 1) = ((i + 1 : Nat) : Int) by push_cast; rfl]
    refine hnext (i + 1) _ (by omega) ⟨by omega, ?_, rfl⟩
    have hd : isDg c = true := decide_eq_true (by omega)
    rw [List.take_add_one, ga, List.all_append, hall]; simp [hd]
  · have hi2 : i = s.length := by omega
    rw [hi2, List.take_length] at hall
    clear hnext
    refine jni (fun vs W' => ∃ x : Int, vs = [strV s, .int .i64 x] ∧ (s.length = 6 → x = sumD s 0) ∧ W' = W1) ?_ ?_
    · rintro vs W' _ ⟨x, rfl, hx, rfl⟩
      refine app2 (x_len (w_neq (ifd (fun h6 => bad fun hh => h6 (by omega)) fun h6 => ?_)))
      have h6' : s.length = 6 := by omega
      rw [show numD s = sumD s 0 by unfold numD; rw [if_pos ⟨h6', hall⟩], ← hx h6'] at k
      exact k
    refine lpx (α := Nat) (fun i => [.int .i64 (sumD (s.take i) 0), nV .i64 i]) (fun i W' => i ≤ s.length ∧ i ≤ 7 ∧ W' = W1) (fun i => s.length - i) 0 (fun _ => rfl) rfl ⟨Nat.zero_le _, by decide, rfl⟩ ?_
    rintro next j W2 hnext ⟨hj, hj7, rfl⟩
    refine app2 ?_
    refine x_len (a_lss (ifd (fun hc => ?_) fun hc => ⟨_, rfl, fun h6 => by rw [show j = s.length by omega, List.take_length], rfl⟩))
    refine a_lss (ifd (fun hc7 => ?_) fun hc7 => ⟨_, rfl, fun h6 => by omega, rfl⟩)
    have ga : s[j]? = some s[j] := List.getElem?_eq_getElem (by omega)
    generalize s[j] = c at ga
    have hd := of_decide_eq_true (List.all_eq_true.1 hall c (List.mem_of_getElem? ga))
    have hc8 := c.toNat_lt
    have htk : (s.take j).all isDg = true := List.all_eq_true.2 fun d hdm => List.all_eq_true.1 hall d (List.mem_of_mem_take hdm)
    obtain ⟨n1, n2⟩ := sumD_rng (s.take j) 0 (Int.le_refl _) htk
    have n3 : (10 ^ (s.take j).length : Nat) ≤ 10000000 := by
      have : (10 : Nat) ^ (s.take j).length ≤ 10 ^ 7 := Nat.pow_le_pow_right (by decide) (by rw [List.length_take]; omega)
      exact this
    refine a_mul64 (by omega) (by omega) (x_index ga ?_)
    refine sub8 (m := 48) (by omega) (v_convN Tryd.underlying5 Tryd.underlying3 (le_i64 (by omega)) ?_)
    refine a_add64 (by omega) (by omega) (a_add64 (by omega) (by omega) ⟨rfl, ?_⟩)
    have e : sumD (s.take (j + 1)) 0 = 10 * sumD (s.take j) 0 + ((c.toNat - 48 : Nat) : Int) := by
      rw [List.take_add_one, ga]; exact sumD_snoc _ _ _
    rw [← e, show ((j : Int) + 1) = ((j + 1 : Nat) : Int) by push_cast; rfl]
    exact hnext (j + 1) _ (by omega) ⟨by omega, by omega, rfl⟩
/-- hblref.Split at a stroke -/
theorem rsplit_spec (h : St w0 G0 l W) (hl : s.length ≤ 100000) (k : ∀ v W', St w0 G0 (Ky v (Ow 9 1 (splF s).length ((splF s).map strV)) :: l) W' → RR v W') : CallF Tryd.prog 31 #[strV s, .int .u8 47] W RR := by
  refine sh31_calls ?_
  unfold sh31
  have eF : cutA 47 [] s = splF s := by have := cutA_F s [] (by simp); simpa using this
  rw [← eF] at k
  refine lpx (α := Value × List Txt × Nat × Nat) (fun x => [x.1, nV .i64 x.2.2.1, nV .i64 x.2.2.2])
    (fun x W' => x.2.2.2 ≤ s.length + 1 ∧ x.2.1.length ≤ x.2.2.2 ∧ (x.2.2.2 ≤ s.length → x.2.2.1 ≤ x.2.2.2 ∧ x.2.1 ++ cutA 47 ((s.drop x.2.2.1).take (x.2.2.2 - x.2.2.1)) (s.drop x.2.2.2) = cutA 47 [] s) ∧ (x.2.2.2 = s.length + 1 → x.2.1 = cutA 47 [] s) ∧ St w0 G0 (Ky x.1 (Ow 9 1 x.2.1.length (x.2.1.map strV)) :: l) W')
    (fun x => s.length + 2 - x.2.2.2) (.slice none 0 0, [], 0, 0) (fun _ => rfl) rfl ⟨by simp, Nat.le_refl _, fun _ => ⟨Nat.le_refl _, by simp⟩, fun hh => absurd hh (by simp), h.nilOw⟩ ?_
  clear h
  rintro next ⟨v, out, fr, i⟩ W1 hnext ⟨hi, ho, hv, he, h⟩
  simp only at hi ho hv he h
  refine app3 ?_
  refine x_len (a_leq (ifd (fun hc => ?_) fun hc => ?_))
  rotate_left
  · replace hc : ¬ (i : Int) ≤ (s.length : Int) := hc
    obtain rfl := he (by omega)
    exact k v W1 h
  replace hc : (i : Int) ≤ (s.length : Int) := hc
  obtain ⟨hfi, hv⟩ := hv (by omega)
  refine jni (fun vs W' => ∃ v' out' fr', vs = [strV s, .int .u8 47, v', nV .i64 fr', nV .i64 i] ∧ out'.length ≤ i + 1 ∧ (i + 1 ≤ s.length → fr' ≤ i + 1 ∧ out' ++ cutA 47 ((s.drop fr').take (i + 1 - fr')) (s.drop (i + 1)) = cutA 47 [] s) ∧ (i + 1 = s.length + 1 → out' = cutA 47 [] s) ∧ St w0 G0 (Ky v' (Ow 9 1 out'.length (out'.map strV)) :: l) W') ?_ ?_
  · rintro vs W' _ ⟨v', out', fr', rfl, g1, g2, g3, h⟩
    refine app5 (a_add64 (show -9223372036854775808 ≤ (i : Int) + 1 by omega) (show (i : Int) + 1 ≤ 9223372036854775807 by omega) ⟨rfl, rfl, ?_⟩)
    rw [show ((i : Int) + 1) = ((i + 1 : Nat) : Int) by push_cast; rfl]
    exact hnext (v', out', fr', i + 1) W' (by show s.length + 2 - (i + 1) < s.length + 2 - i; omega) ⟨by show i + 1 ≤ _; omega, g1, g2, g3, h⟩
  have stO : ∀ {u : Value} {W'}, St w0 G0 (Ky u (Ow 9 1 (out.length + 1) (out.map strV ++ [strV ((s.drop fr).take (i - fr))])) :: l) W' → St w0 G0 (Ky u (Ow 9 1 (out ++ [(s.drop fr).take (i - fr)]).length ((out ++ [(s.drop fr).take (i - fr)]).map strV)) :: l) W' := fun {u W'} h => by
    rw [List.length_append, List.map_append]; exact h
  refine x_len (w_eql (ifd (fun hc2 => ?_) fun hc2 => ?_))
  · replace hc2 : (i : Int) = (s.length : Int) := hc2
    refine x_cut (lo := fr) (hi := i) (by omega) (by omega) ?_
    refine h.push (v := v) (by unfold maxLen; omega) (by omega) fun v' W' o' h _ => ?_
    refine a_add64 (a := (i : Int)) (b := 1) (by omega) (by omega) ?_
    rw [show ((i : Int) + 1) = ((i + 1 : Nat) : Int) by push_cast; rfl]
    refine ⟨v', out ++ [(s.drop fr).take (i - fr)], i + 1, rfl, by rw [List.length_append]; show out.length + 1 ≤ _; omega, fun hh => by omega, fun _ => ?_, stO h⟩
    rw [List.drop_of_length_le (show s.length ≤ i by omega)] at hv
    exact hv
  · replace hc2 : ¬ (i : Int) = (s.length : Int) := hc2
    obtain ⟨c, hcv⟩ : ∃ c, s[i]? = some c := ⟨_, List.getElem?_eq_getElem (by omega)⟩
    have hdrop : s.drop i = c :: s.drop (i + 1) := by
      obtain ⟨hk1, hk2⟩ := List.getElem?_eq_some_iff.1 hcv
      rw [List.drop_eq_getElem_cons hk1, hk2]
    rw [hdrop] at hv
    have h47 : ((c.toNat : Int) = 47) ↔ c = 47 := ⟨fun e => UInt8.toNat_inj.1 (show c.toNat = 47 by omega), fun e => by rw [e]; rfl⟩
    refine x_index hcv (w_eql (ifd (fun g => ?_) fun g => ?_))
    · obtain rfl := h47.1 g
      rw [cutA_hit] at hv
      refine x_cut (lo := fr) (hi := i) (by omega) (by omega) ?_
      refine h.push (v := v) (by unfold maxLen; omega) (by omega) fun v' W' o' h _ => ?_
      refine a_add64 (a := (i : Int)) (b := 1) (by omega) (by omega) ?_
      rw [show ((i : Int) + 1) = ((i + 1 : Nat) : Int) by push_cast; rfl]
      refine ⟨v', out ++ [(s.drop fr).take (i - fr)], i + 1, rfl, by rw [List.length_append]; show out.length + 1 ≤ _; omega, fun hh => ⟨Nat.le_refl _, ?_⟩, fun hh => by omega, stO h⟩
      rw [Nat.sub_self, List.take_zero, List.append_assoc]
      exact hv
    · rw [cutA_miss fun e => g (h47.2 e)] at hv
      refine ⟨v, out, fr, rfl, by omega, fun hh => ⟨by omega, ?_⟩, fun hh => by omega, h⟩
      rw [show i + 1 - fr = (i - fr) + 1 by omega, List.take_add_one, List.getElem?_drop, show fr + (i - fr) = i by omega, hcv]
      exact hv
/-- hblref1.Digits -/
theorem digit_cut {n : Nat} : ∀ w : Nat, n / 10 ^ w = 0 ↔ n < 10 ^ w := fun w => by
  rw [Nat.div_eq_zero_iff]
  exact ⟨fun h => h.resolve_left (Nat.pos_iff_ne_zero.1 (Nat.pow_pos (by decide))), .inr⟩
theorem nd_le : ∀ (k n : Nat), n < 10 ^ (k + 1) → nDigits n ≤ k + 1
  | 0, n, h => by rw [nDigits_small (by simpa using h)]; exact Nat.le_refl _
  | k + 1, n, h => by
    by_cases hn : n < 10
    · rw [nDigits_small hn]; omega
    · rw [nDigits_big hn]
      have := nd_le k (n / 10) (by rw [Nat.pow_succ] at h; omega)
      omega
theorem digR_six {n : Nat} (h : n < 1000000) : digR n 6 = (dgs n 6, true) := by
  unfold digR
  rw [if_neg]
  · rfl
  · rw [Int.toNat_natCast]
    have : (decDigits n).length ≤ 6 := by
      rw [decDigits_length]
      exact nd_le 5 n h
    omega
theorem digR_big {n : Int} (h : ¬ (0 ≤ n ∧ n < 1000000)) : digR n 6 = ([], false) := by
  cases hd : (digR n 6).2
  · unfold digR at hd ⊢
    split at hd
    · rename_i hc; rw [if_pos hc]
    · cases hd
  · obtain ⟨m, rfl, h2, _⟩ := digR6 hd
    exact absurd ⟨by omega, by omega⟩ h
theorem rdig_spec {n : Int} (h : St w0 G0 l W) (hn : n ≤ 9223372036854775807) (k : ∀ W', St w0 G0 l W' → RR (.tuple #[strV (digR n 6).1, .bool (digR n 6).2]) W') : CallF Tryd.prog 34 #[.int .i64 n, .int .i64 6] W RR := by
  refine sh34_calls ?_
  unfold sh34
  refine a_lss (ifd (fun hc => by rw [digR_big (by omega)] at k; exact k W h) fun hc => ?_)
  obtain ⟨n, rfl⟩ := Int.eq_ofNat_of_zero_le (Int.not_lt.1 hc)
  refine a_lss (ifd_neg (by decide) (a_gtr (ifd_neg (by decide) ?_)))
  refine h.make (n := 6) (by decide) (by unfold maxLen; decide) fun v W _ h => ?_
  refine a_sub64 (by decide) (by decide) ?_
  refine lpx (α := Nat) (fun i => [nV .i64 (n / 10 ^ i), .int .i64 (5 - (i : Int))]) (fun i W' => i ≤ 6 ∧ St w0 G0 (Ky v (Ow 5 1 6 (List.replicate (6 - i) (.int .u8 0) ++ bytesV (dgs n i))) :: l) W') (fun i => 6 - i) 0 (fun _ => rfl) (by simp) ⟨Nat.zero_le _, by simpa [dgs, bytesV] using h⟩ ?_
  clear h
  rintro next i W1 hnext ⟨hi, h⟩
  refine app2 ?_
  refine a_geq (ifd (fun hc => ?_) fun hc => ?_)
  · have hq : n / 10 ^ i ≤ n := Nat.div_le_self _ _
    have hdig : dgs n (i + 1) = UInt8.ofNat (48 + n / 10 ^ i % 10) :: dgs n i := rfl
    have hnx : n / 10 ^ (i + 1) = n / 10 ^ i / 10 := by rw [Nat.pow_succ, ← Nat.div_div_eq_div_mul]
    have hnext' := hnext (i + 1)
    rw [hnx, hdig] at hnext'
    clear hnext hdig hnx
    generalize n / 10 ^ i = q at *
    refine a_rem64 (by omega) (by decide) ?_
    have hm : q % 10 < 10 := Nat.mod_lt _ (by decide)
    have e1 : ((q : Int) % 10) = ((q % 10 : Nat) : Int) := by omega
    rw [e1]
    refine a_add64 (by omega) (by omega) ?_
    rw [show (48 + ((q % 10 : Nat) : Int)) = ((48 + q % 10 : Nat) : Int) by omega]
    refine v_byte Tryd.underlying3 Tryd.underlying5 ?_
    refine a_quo64 (by omega) (by omega) (by decide) ?_
    rw [show (5 - (i : Int)) = ((5 - i : Nat) : Int) by omega]
    refine h.setAt (v := v) (by omega) fun W2 h => ?_
    refine a_sub64 (by omega) (by omega) ⟨rfl, ?_⟩
    rw [show (((5 - i : Nat) : Int) - 1) = 5 - ((i + 1 : Nat) : Int) by omega, show ((q : Int) / 10) = ((q / 10 : Nat) : Int) by omega]
    refine hnext' W2 (by omega) ⟨by omega, ?_⟩
    rw [show 6 - i = (5 - i) + 1 by omega, dgs_set] at h
    rw [show 6 - (i + 1) = 5 - i by omega]
    exact h
  · obtain rfl : i = 6 := by omega
    rw [Nat.sub_self, List.replicate_zero, List.nil_append] at h
    have hz := digit_cut (n := n) 6
    have e6 : (10 : Nat) ^ 6 = 1000000 := by decide
    rw [e6] at hz
    refine a_gtr (ifd (fun hg => ?_) fun hg => ?_)
    · rw [digR_big (by rw [e6] at hg; intro hh; have := hz.2 (by omega); omega)] at k
      exact k W1 h.to
    · rw [digR_six (hz.1 (by rw [e6] at hg; omega))] at k
      refine x_str (l := dgs n 6) (by have := h.osl (v := v); unfold By; rw [dgs_len]; exact this) ?_
      exact k W1 h.to
end
end Go.Proofs.YtgflkjhljggeiaaDoor
