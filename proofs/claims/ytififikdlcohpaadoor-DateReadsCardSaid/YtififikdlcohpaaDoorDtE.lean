/-
  DATES: digits written; a second told.
-/
import Derived.Test.YtififikdlcohpaaDoorDtD
namespace Go.Ez
open Go
set_option linter.unusedVariables false
theorem digL_set (z c : Value) (m : Nat) (D : List Value) : (List.replicate (m + 1) z ++ D).set m c = List.replicate m z ++ c :: D := by
  rw [List.set_append_left _ _ (by simp), List.replicate_succ', List.set_append_right _ _ (by simp)]
  simp
theorem firstD_mono {y z : Int} (h : y ≤ z) (_ : 1 ≤ y) : firstD y ≤ firstD z := by unfold firstD; omega
theorem firstD_366 {q : Int} (h : 0 ≤ q) : firstD (1970 + q) ≤ 366 * q := by unfold firstD; omega
/-- a time as it is told -/
def dateS (y mo d s : Nat) : Txt := digL y 4 ++ [45] ++ digL mo 2 ++ [45] ++ digL d 2 ++ [84] ++ digL (s / 3600) 2 ++ [58] ++ digL (s / 60 % 60) 2 ++ [58] ++ digL (s % 60) 2 ++ [90]
/-- a day -/
structure DayIs (n : Int) (y mo d : Nat) : Prop where
  y1 : 1970 ≤ y
  y2 : y ≤ 9999
  m1 : 1 ≤ mo
  m2 : mo ≤ 12
  d1 : 1 ≤ d
  d2 : (d : Int) ≤ lenM y mo
  eq : dayN y mo d = n
theorem dayIs_of {n : Int} {y : Nat} {i : Nat} {d : Int} (hy : 1970 ≤ y) (hy2 : y ≤ 9999) (hi : i ≤ 11) (hd : d = n - firstD y - sumL y i) (h0 : 0 ≤ d) (h1 : d < lenM y ((i + 1 : Nat) : Int)) : DayIs n y (i + 1) (d.toNat + 1) :=
  ⟨hy, hy2, by omega, by omega, by omega, by omega, by
    unfold dayN
    rw [show ((((i + 1 : Nat) : Int)) - 1).toNat = i by omega]
    omega⟩
theorem month_in {n : Int} {y i : Nat} (hy : 1970 ≤ y) (hn : n < firstD (y + 1)) (hi : i ≤ 11) (h1 : lenM y ((i + 1 : Nat) : Int) ≤ n - firstD y - sumL y i) : i + 1 ≤ 11 := by
  rcases Nat.lt_or_ge i 11 with h | h
  · omega
  · exfalso
    obtain rfl : i = 11 := by omega
    have e := sumL_year (y : Int)
    have e2 := firstD_next (y := (y : Int)) (by omega)
    have e3 : sumL (y : Int) 12 = sumL y 11 + lenM y ((11 + 1 : Nat) : Int) := rfl
    omega
end Go.Ez
namespace Go.Proofs.YtififikdlcohpaaDoor
open Go Go.Ez Go.RowKit
set_option linter.unusedSimpArgs false
set_option linter.unusedVariables false
section
variable {w0 W W' : World} {G : Nat → Prop} {l R R1 : List As} {RR : Value → World → Prop}
theorem digits_spec {n w : Nat} (h : St w0 G l W) (hn : n ≤ 1000000000) (hw : w ≤ 9) (k : ∀ W', St w0 G l W' → RR (strV (digL n w)) W') : CallF Tryd.prog 63 #[nV .i64 n, nV .i64 w] W RR := by
  refine sh63_calls ?_
  unfold sh63
  refine h.make (n := w) (by omega) (by unfold maxLen; omega) fun v W _ h => ?_
  refine x_lenS (h.osl (v := v)) ?_
  refine lpx (α := Nat) (fun i => [nV .i64 (n / 10 ^ i), nV .i64 i]) (fun i W' => i ≤ w ∧ St w0 G (Ky v (Ow 5 1 w (List.replicate (w - i) (.int .u8 0) ++ bytesV (digL n i))) :: l) W') (fun i => w - i) 0 (fun _ => rfl) (by simp) ⟨Nat.zero_le _, by simpa [digL, bytesV] using h⟩ ?_
  clear h
  rintro next i W1 hnext ⟨hi, h⟩
  refine app2 ?_
  refine a_lss (ifd (fun hc => ?_) fun hc => ?_)
  · have hq : n / 10 ^ i ≤ n := Nat.div_le_self _ _
    have hdig : digL n (i + 1) = UInt8.ofNat (48 + n / 10 ^ i % 10) :: digL n i := rfl
    have hnx : n / 10 ^ (i + 1) = n / 10 ^ i / 10 := by rw [Nat.pow_succ, ← Nat.div_div_eq_div_mul]
    have hnext' := hnext (i + 1)
    rw [hnx, hdig] at hnext'
    clear hnext hdig hnx
    generalize n / 10 ^ i = q at *
    refine a_sub64 (by omega) (by omega) (a_sub64 (by omega) (by omega) (a_rem64 (by omega) (by decide) ?_))
    have hm : q % 10 < 10 := Nat.mod_lt _ (by decide)
    have e1 : ((q : Int) % 10) = ((q % 10 : Nat) : Int) := by omega
    rw [e1]
    refine a_add64 (by omega) (by omega) ?_
    rw [show (48 + ((q % 10 : Nat) : Int)) = ((48 + q % 10 : Nat) : Int) by omega]
    refine v_byte Tryd.underlying3 Tryd.underlying5 ?_
    rw [show ((w : Int) - 1 - (i : Int)) = ((w - 1 - i : Nat) : Int) by omega]
    refine h.setAt (v := v) (by omega) fun W2 h => ?_
    refine a_quo64 (by omega) (by omega) (by decide) (a_add64 (by omega) (by omega) ⟨rfl, rfl, rfl, ?_⟩)
    rw [show ((i : Int) + 1) = ((i + 1 : Nat) : Int) by push_cast; rfl, show ((q : Int) / 10) = ((q / 10 : Nat) : Int) by omega]
    refine hnext' W2 (by omega) ⟨by omega, ?_⟩
    rw [show w - i = (w - 1 - i) + 1 by omega, digL_set] at h
    rw [show w - (i + 1) = w - 1 - i by omega]
    exact h
  · obtain rfl : i = w := by omega
    rw [Nat.sub_self, List.replicate_zero, List.nil_append] at h
    refine x_str (l := digL n i) (by have := h.osl (v := v); unfold By; rw [digL_len]; exact this) ?_
    exact k W1 h.to
/-- Print -/
theorem print_spec {t : Int} (h : St w0 G l W) (k0 : within t = false → RR (.tuple #[strV [], .int .i64 1]) W)
    (k : within t = true → ∀ y mo d W', DayIs (t / 86400) y mo d → St w0 G l W' → RR (.tuple #[strV (dateS y mo d (t % 86400).toNat), .int .i64 0]) W') : CallF Tryd.prog 28 #[.int .i64 t] W RR := by
  refine sh28_calls ?_
  unfold sh28
  refine within_spec (a_not (ifnb (fun hw => k0 hw) fun hw => ?_))
  replace k := k hw
  obtain ⟨t0, t1⟩ := of_decide_eq_true hw
  refine a_quo64 (by omega) (by omega) (by decide) (a_rem64 (by omega) (by decide) ?_)
  have n0 : 0 ≤ t / 86400 := by omega
  have n1 : t / 86400 < 2932897 := by omega
  have s0 : 0 ≤ t % 86400 := by omega
  have s1 : t % 86400 < 86400 := by omega
  obtain ⟨s, hs⟩ := Int.eq_ofNat_of_zero_le s0
  generalize t / 86400 = n at *
  rw [hs] at k s1 ⊢
  rw [Int.toNat_natCast] at k
  clear s0 hs t0 t1 hw k0
  refine a_quo64 (by omega) (by omega) (by decide) (a_add64 (by omega) (by omega) ?_)
  have f10 : firstD 10000 = 2932897 := by decide
  refine lpx (α := Nat) (fun y => [nV .i64 y]) (fun y W' => 1970 ≤ y ∧ y ≤ 9999 ∧ firstD y ≤ n ∧ W' = W) (fun y => 10000 - y) (1970 + (n / 366).toNat) (fun _ => rfl) (by congr 2; omega) ⟨by omega, by omega, ?_, rfl⟩ ?_
  · have := firstD_366 (q := n / 366) (by omega)
    rw [show (((1970 + (n / 366).toNat : Nat)) : Int) = 1970 + n / 366 by omega]
    omega
  rintro next y W1 hnext ⟨y1, y2, y3, rfl⟩
  refine app1 ?_
  refine a_add64 (by omega) (by omega) (firstd_spec (by omega) (by omega) (a_leq (ifd (fun hc => ?_) fun hc => ?_)))
  · refine a_add64 (by omega) (by omega) ⟨rfl, rfl, rfl, ?_⟩
    have hy : y + 1 ≤ 9999 := by
      rcases Nat.lt_or_ge y 9999 with h | h
      · omega
      · have := firstD_mono (y := 10000) (z := (y : Int) + 1) (by omega) (by omega)
        omega
    rw [show ((y : Int) + 1) = ((y + 1 : Nat) : Int) by push_cast; rfl] at hc ⊢
    exact hnext (y + 1) _ (by omega) ⟨by omega, hy, hc, rfl⟩
  refine firstd_spec (by omega) (by omega) ?_
  obtain ⟨hf, hf'⟩ := firstD_rng (y := y) (by omega) (by omega)
  refine a_sub64 (by omega) (by omega) ?_
  refine lpx (α := Nat) (fun i => [nV .i64 (i + 1), .int .i64 (n - firstD y - sumL y i)]) (fun i W' => i ≤ 11 ∧ 0 ≤ n - firstD y - sumL y i ∧ W' = W1) (fun i => 12 - i) 0 (fun _ => rfl) (by simp [sumL]) ⟨by omega, by simp [sumL]; omega, rfl⟩ ?_
  clear hnext
  rintro next i W2 hnext ⟨i1, i2, rfl⟩
  refine app2 ?_
  refine length_spec (by omega) (a_geq (ifd (fun hc2 => ?_) fun hc2 => ?_))
  · refine length_spec (by omega) ?_
    have hl := lenM_ge y ((i + 1 : Nat) : Int)
    have hl2 := lenM_le y ((i + 1 : Nat) : Int)
    have hs0 := sumL_ge y i
    refine a_sub64 (by omega) (by omega) (a_add64 (by omega) (by omega) ⟨rfl, rfl, ?_⟩)
    have hi := month_in (n := n) (y := y) (i := i) (by omega) (by omega) i1 hc2
    rw [show (((i + 1 : Nat) : Int) + 1) = ((i + 1 + 1 : Nat) : Int) by push_cast; rfl, show n - firstD y - sumL y i - lenM y ((i + 1 : Nat) : Int) = n - firstD y - sumL y (i + 1) by rw [show sumL y (i + 1) = sumL y i + lenM y ((i + 1 : Nat) : Int) from rfl]; omega]
    exact hnext (i + 1) _ (by omega) ⟨hi, by rw [show sumL y (i + 1) = sumL y i + lenM y ((i + 1 : Nat) : Int) from rfl]; omega, rfl⟩
  have hday := dayIs_of (n := n) (y := y) (i := i) (d := n - firstD y - sumL y i) (by omega) y2 i1 rfl i2 (by omega)
  obtain ⟨d, hd⟩ := Int.eq_ofNat_of_zero_le i2
  have hl2 := lenM_le y ((i + 1 : Nat) : Int)
  have hs0 := sumL_ge y i
  rw [hd] at hday hc2 ⊢
  rw [Int.toNat_natCast] at hday
  replace k := fun W' => k y (i + 1) (d + 1) W' hday
  refine digits_spec (n := y) (w := 4) h (by omega) (by decide) fun W h => ?_
  refine a_cat (m := [45]) (by simp [digL_len]) ?_
  refine digits_spec (n := i + 1) (w := 2) h (by omega) (by decide) fun W h => ?_
  refine a_cat (by simp [digL_len]) (a_cat (m := [45]) (by simp [digL_len]) ?_)
  refine a_add64 (by omega) (by omega) ?_
  rw [show ((d : Int) + 1) = ((d + 1 : Nat) : Int) by push_cast; rfl]
  refine digits_spec (n := d + 1) (w := 2) h (by omega) (by decide) fun W h => ?_
  refine a_cat (by simp [digL_len]) (a_cat (m := [84]) (by simp [digL_len]) ?_)
  refine a_quo64 (by omega) (by omega) (by decide) ?_
  rw [show ((s : Int) / 3600) = ((s / 3600 : Nat) : Int) by omega]
  refine digits_spec (n := s / 3600) (w := 2) h (by omega) (by decide) fun W h => ?_
  refine a_cat (by simp [digL_len]) (a_cat (m := [58]) (by simp [digL_len]) ?_)
  refine a_quo64 (by omega) (by omega) (by decide) (a_rem64 (by omega) (by decide) ?_)
  rw [show ((s : Int) / 60 % 60) = ((s / 60 % 60 : Nat) : Int) by omega]
  refine digits_spec (n := s / 60 % 60) (w := 2) h (by omega) (by decide) fun W h => ?_
  refine a_cat (by simp [digL_len]) (a_cat (m := [58]) (by simp [digL_len]) ?_)
  refine a_rem64 (by omega) (by decide) ?_
  rw [show ((s : Int) % 60) = ((s % 60 : Nat) : Int) by omega]
  refine digits_spec (n := s % 60) (w := 2) h (by omega) (by decide) fun W h => ?_
  refine a_cat (by simp [digL_len]) (a_cat (m := [90]) (by simp [digL_len]) ?_)
  exact k W h
end
end Go.Proofs.YtififikdlcohpaaDoor
