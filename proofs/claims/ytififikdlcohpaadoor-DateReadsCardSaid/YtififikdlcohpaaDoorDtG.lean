/-
  DATES, plainly: what is told is read again; later times are told by greater texts.
-/
import Derived.Test.YtififikdlcohpaaDoorDtF
namespace Go.Ez
open Go
set_option linter.unusedSimpArgs false
set_option linter.unusedVariables false
theorem digC_dig (n : Nat) : isDig (digC n) = true ∧ (digC n).toNat - 48 = n % 10 := by
  have : (digC n).toNat = 48 + n % 10 := by
    unfold digC
    rw [UInt8.toNat_ofNat']
    omega
  unfold isDig
  rw [this, Bool.and_eq_true, decide_eq_true_eq, decide_eq_true_eq]
  omega
theorem digL_dig (n w : Nat) : (digL n w).all isDig = true := by
  induction w with
  | zero => rfl
  | succ w ih => unfold digL; rw [List.all_cons, (digC_dig _).1, ih]; rfl
theorem numV_digL (v : Nat) : ∀ (w : Nat) (a : Nat), numV (digL v w) (a : Int) = ((a * 10 ^ w + v % 10 ^ w : Nat) : Int)
  | 0, a => by simp [digL, numV, Nat.mod_one]
  | w + 1, a => by
    unfold digL numV
    rw [(digC_dig _).2, show ((a : Int) * 10 + ((v / 10 ^ w % 10 : Nat) : Int)) = ((a * 10 + v / 10 ^ w % 10 : Nat) : Int) by push_cast; rfl, numV_digL v w]
    congr 1
    rw [Nat.pow_succ, Nat.mod_mul, Nat.add_mul, Nat.mul_assoc, Nat.mul_comm 10 (10 ^ w), Nat.mul_comm (10 ^ w) (v / 10 ^ w % 10)]
    omega
theorem digs_digL (v n : Nat) (r : Txt) : digs n (digL v n ++ r) = digL v n := by
  rw [digs_eq, List.take_left' (digL_len v n)]
  exact takeWhile_all (digL_dig v n)
theorem number_digL {v n : Nat} (hv : v < 10 ^ n) (r : Txt) : numberP n n (digL v n ++ r, false) = ((v : Int), (r, false)) := by
  unfold numberP
  simp only [digs_digL, digL_len, List.drop_left' (digL_len v n), Nat.lt_irrefl, decide_false, Bool.or_false]
  have := numV_digL v n 0
  rw [Nat.zero_mul, Nat.zero_add, Nat.mod_eq_of_lt hv] at this
  rw [show (0 : Int) = ((0 : Nat) : Int) from rfl, this]
theorem number_digL0 {v n : Nat} (hv : v < 10 ^ n) : numberP n n (digL v n, false) = ((v : Int), ([], false)) := by
  have := number_digL hv []
  rw [List.append_nil] at this
  exact this
theorem pre1 (c : UInt8) (r : Txt) : isPreD [c] (c :: r) = true := by simp [isPreD]
theorem pre1n {c d : UInt8} (h : d ≠ c) (r : Txt) : isPreD [c] (d :: r) = false := by simp [isPreD, h]
theorem pre1e (c : UInt8) : isPreD [c] [] = false := by simp [isPreD]
theorem wants1 (c : UInt8) (r : Txt) : wantsP [c] (c :: r, false) = (r, false) := by simp [wantsP, eatS, pre1]
theorem eats1 (c : UInt8) (r : Txt) (b : Bool) : eatsP [c] (c :: r, b) = (r, b) := by simp [eatsP, eatS, pre1]
theorem eats1n {c d : UInt8} (h : d ≠ c) (r : Txt) (b : Bool) : eatsP [c] (d :: r, b) = (d :: r, b) := by simp [eatsP, eatS, pre1n h]
/-- the front of a time as it is told -/
def stemS (y mo d h mi c : Nat) : Txt := digL y 4 ++ 45 :: (digL mo 2 ++ 45 :: (digL d 2 ++ 84 :: (digL h 2 ++ 58 :: (digL mi 2 ++ 58 :: digL c 2))))
theorem stemS_len (y mo d h mi c : Nat) : (stemS y mo d h mi c).length = 19 := by simp [stemS, digL_len]
theorem dateS_stem (y mo d s : Nat) : dateS y mo d s = stemS y mo d (s / 3600) (s / 60 % 60) (s % 60) ++ [90] := by simp [dateS, stemS]
theorem dateS_len (y mo d s : Nat) : (dateS y mo d s).length = 20 := by simp [dateS_stem, stemS_len]
theorem dateS_take (y mo d s : Nat) : (dateS y mo d s).take 19 = stemS y mo d (s / 3600) (s / 60 % 60) (s % 60) := by rw [dateS_stem, List.take_left' (stemS_len ..)]
theorem net_stem {y mo d h mi c : Nat} (hy : y < 10000) (hm : mo < 100) (hd : d < 100) (hh : h < 100) (hi : mi < 100) (hc : c < 100) (r : Txt) :
    netP (stemS y mo d h mi c ++ r) = secondP (zedP (fractionP (r, false))).2 y mo d h mi c (zedP (fractionP (r, false))).1 := by
  unfold netP stemS
  simp only [List.append_assoc, List.cons_append]
  rw [number_digL (n := 4) (by omega)]
  simp only [wants1]
  rw [number_digL (n := 2) (by omega)]
  simp only [wants1]
  rw [number_digL (n := 2) (by omega)]
  have tee : ∀ r : Txt, teeP (84 :: r, false) = (r, false) := fun r => by simp [teeP, pre1, eats1]
  simp only [tee]
  rw [number_digL (n := 2) (by omega)]
  simp only [wants1]
  rw [number_digL (n := 2) (by omega)]
  simp only [wants1]
  rw [number_digL (n := 2) (by omega)]
theorem frac_no {c : UInt8} (h : c ≠ 46) (r : Txt) : fractionP (c :: r, false) = (c :: r, false) := by simp [fractionP, pre1n h, eats1n h]
theorem zed_Z (r : Txt) : zedP (90 :: r, false) = (0, (r, false)) := by simp [zedP, pre1, eats1]
theorem frac_25 : fractionP ([46, 50, 53, 90], false) = ([90], false) := by decide
theorem zed_sign {c : UInt8} (hc : c = 43 ∨ c = 45) {h m : Nat} (hh : h ≤ 23) (hm : m ≤ 59) :
    zedP (c :: (digL h 2 ++ 58 :: digL m 2), false) = ((if c = 43 then 1 else -1) * ((h : Int) * 3600 + (m : Int) * 60), ([], false)) := by
  have s1 : ∀ r : Txt, zedP (c :: r, false) = offsetP [58] (c :: r, false) := fun r => by
    rcases hc with rfl | rfl <;> simp [zedP, isPreD, eatsP, eatS]
  have s2 : ∀ r : Txt, signP (c :: r, false) = (if c = 43 then 1 else -1, (r, false)) := fun r => by
    rcases hc with rfl | rfl <;> simp [signP, isPreD, eatsP, eatS, wantsP]
  rw [s1]
  unfold offsetP
  simp only [s2]
  rw [number_digL (n := 2) (by omega)]
  simp only [wants1]
  rw [number_digL0 (n := 2) (by omega)]
  have : decide ((23 : Int) < h ∨ (59 : Int) < m) = false := decide_eq_false (by omega)
  simp only [this, badIf, Bool.or_false]
theorem DayIs.fits {n : Int} {y mo d : Nat} (h : DayIs n y mo d) : y < 10000 ∧ mo < 100 ∧ d < 100 ∧ okD y mo d = true := by
  have h1 := h.y2; have h2 := h.m2; have h3 := h.d2; have h4 := lenM_le y mo; have h5 := h.y1; have h6 := h.m1; have h7 := h.d1
  refine ⟨by omega, by omega, by omega, ?_⟩
  unfold okD
  rw [decide_eq_true_eq]
  omega
theorem makeP_is {n : Int} {y mo d s : Nat} (h : DayIs n y mo d) (hs : s < 86400) : makeP y mo d (s / 3600 : Nat) (s / 60 % 60 : Nat) (s % 60 : Nat) = (n * 86400 + s, true) := by
  rw [makeP_day y mo d (by unfold okT; rw [decide_eq_true_eq]; omega), h.fits.2.2.2, if_pos rfl, h.eq]
  congr 1
  omega
theorem range_is {n off : Int} {y mo d s : Nat} (h : DayIs n y mo d) (hs : s < 86400) : rangeP y mo d (s / 3600 : Nat) (s / 60 % 60 : Nat) (s % 60 : Nat) off = if within (n * 86400 + s - off) then (n * 86400 + s - off, 0) else (0, 1) := by
  unfold rangeP
  rw [makeP_is h hs, Bool.true_and]
theorem net_date {n : Int} {y mo d s : Nat} (h : DayIs n y mo d) (hs : s < 86400) (hw : within (n * 86400 + s) = true) : netP (dateS y mo d s) = (n * 86400 + s, 0) := by
  obtain ⟨h1, h2, h3, h4⟩ := h.fits
  rw [dateS_stem, net_stem h1 h2 h3 (by omega) (by omega) (by omega), frac_no (by decide), zed_Z]
  unfold secondP
  rw [range_is h hs]
  simp [hw]

/-! ### later, greater -/
theorem bl_cons (a b : UInt8) (x y : Txt) : Op.bytesLess (a :: x) (b :: y) = (decide (a < b) || (a == b && Op.bytesLess x y)) := by simp [Op.bytesLess]
theorem bl_same (a : UInt8) (x y : Txt) : Op.bytesLess (a :: x) (a :: y) = Op.bytesLess x y := by simp [bl_cons, UInt8.lt_irrefl]
theorem digC_lt (m n : Nat) : decide (digC m < digC n) = decide (m % 10 < n % 10) := by
  refine decide_eq_decide.2 ?_
  rw [UInt8.lt_iff_toNat_lt]
  have h1 := (digC_dig m); have h2 := (digC_dig n)
  unfold isDig at h1 h2
  simp only [Bool.and_eq_true, decide_eq_true_eq] at h1 h2
  omega
theorem digC_eq (m n : Nat) : (digC m == digC n) = decide (m % 10 = n % 10) := by
  rw [Bool.eq_iff_iff, beq_iff_eq, decide_eq_true_eq, ← UInt8.toNat_inj]
  have h1 := (digC_dig m); have h2 := (digC_dig n)
  unfold isDig at h1 h2
  simp only [Bool.and_eq_true, decide_eq_true_eq] at h1 h2
  omega
theorem bl_dig (u v : Nat) (r r' : Txt) : ∀ n, Op.bytesLess (digL u n ++ r) (digL v n ++ r') = (decide (u % 10 ^ n < v % 10 ^ n) || (decide (u % 10 ^ n = v % 10 ^ n) && Op.bytesLess r r'))
  | 0 => by simp [digL, Nat.mod_one]
  | n + 1 => by
    unfold digL
    rw [List.cons_append, List.cons_append, bl_cons, bl_dig u v r r' n, digC_lt, digC_eq, Nat.pow_succ, Nat.mod_mul, Nat.mod_mul (x := v)]
    have hp : 0 < 10 ^ n := Nat.pow_pos (by decide)
    have hu := Nat.mod_lt u hp
    have hv := Nat.mod_lt v hp
    generalize u % 10 ^ n = a at *
    generalize v % 10 ^ n = b at *
    generalize u / 10 ^ n % 10 = p at *
    generalize v / 10 ^ n % 10 = q at *
    generalize 10 ^ n = t at *
    rcases Nat.lt_trichotomy p q with h | h | h
    · have : a + t * p < b + t * q := by
        have : t * (p + 1) ≤ t * q := Nat.mul_le_mul_left _ h
        rw [Nat.mul_add] at this; omega
      rw [decide_eq_true h, decide_eq_true this]; simp
    · subst h
      rw [decide_eq_false (Nat.lt_irrefl p), decide_eq_true rfl, Bool.false_or, Bool.true_and]
      rw [show decide (a + t * p < b + t * p) = decide (a < b) from decide_eq_decide.2 (by omega), show decide (a + t * p = b + t * p) = decide (a = b) from decide_eq_decide.2 (by omega)]
    · have : b + t * q < a + t * p := by
        have : t * (q + 1) ≤ t * p := Nat.mul_le_mul_left _ h
        rw [Nat.mul_add] at this; omega
      rw [decide_eq_false (show ¬ p < q by omega), decide_eq_false (show ¬ p = q by omega), decide_eq_false (show ¬ a + t * p < b + t * q by omega), decide_eq_false (show ¬ a + t * p = b + t * q by omega)]; simp
theorem bl_digS {u v n : Nat} (hu : u < 10 ^ n) (hv : v < 10 ^ n) (r r' : Txt) : Op.bytesLess (digL u n ++ r) (digL v n ++ r') = (decide (u < v) || (decide (u = v) && Op.bytesLess r r')) := by
  rw [bl_dig, Nat.mod_eq_of_lt hu, Nat.mod_eq_of_lt hv]
theorem sumL_mono (y : Int) {i j : Nat} (h : i ≤ j) : sumL y i ≤ sumL y j := by
  induction j with
  | zero => obtain rfl : i = 0 := by { omega }; exact Int.le_refl _
  | succ j ih =>
    rcases Nat.lt_or_ge j i with h1 | h1
    · obtain rfl : i = j + 1 := by omega
      exact Int.le_refl _
    · have := ih h1
      have h2 := lenM_ge y ((j + 1 : Nat) : Int)
      have h3 : sumL y (j + 1) = sumL y j + lenM y ((j + 1 : Nat) : Int) := rfl
      omega
theorem DayIs.in_year {n : Int} {y mo d : Nat} (h : DayIs n y mo d) : firstD y ≤ n ∧ n < firstD (y + 1) := by
  have e := h.eq
  have m1 := h.m1; have m2 := h.m2; have d1 := h.d1; have d2 := h.d2; have y1 := h.y1
  have s0 := sumL_ge y ((mo : Int) - 1).toNat
  have s1 : sumL y ((mo : Int) - 1).toNat + lenM y mo ≤ sumL y 12 := by
    have h3 : sumL y (((mo : Int) - 1).toNat + 1) = sumL y ((mo : Int) - 1).toNat + lenM y ((((mo : Int) - 1).toNat + 1 : Nat) : Int) := rfl
    rw [show (((((mo : Int) - 1).toNat + 1 : Nat)) : Int) = mo by omega] at h3
    rw [← h3]
    exact sumL_mono _ (by omega)
  rw [sumL_year] at s1
  have f := firstD_next (y := (y : Int)) (by omega)
  unfold dayN at e
  omega
theorem day_order {n n' : Int} {y mo d y' mo' d' : Nat} (h : DayIs n y mo d) (h' : DayIs n' y' mo' d') :
    (y < y' → n < n') ∧ (y = y' → mo < mo' → n < n') ∧ (y = y' → mo = mo' → n' - n = (d' : Int) - d) := by
  have a := h.in_year; have a' := h'.in_year
  refine ⟨fun hy => ?_, fun hy hm => ?_, fun hy hm => ?_⟩
  · have := firstD_mono (y := (y : Int) + 1) (z := y') (by omega) (by omega)
    omega
  · subst hy
    have e := h.eq; have e' := h'.eq
    have m1 := h.m1; have d2 := h.d2; have d1 := h'.d1
    have h3 : sumL y (((mo : Int) - 1).toNat + 1) = sumL y ((mo : Int) - 1).toNat + lenM y ((((mo : Int) - 1).toNat + 1 : Nat) : Int) := rfl
    rw [show (((((mo : Int) - 1).toNat + 1 : Nat)) : Int) = mo by omega] at h3
    have h4 := sumL_mono y (i := ((mo : Int) - 1).toNat + 1) (j := ((mo' : Int) - 1).toNat) (by omega)
    unfold dayN at e e'
    omega
  · subst hy; subst hm
    have e := h.eq; have e' := h'.eq
    unfold dayN at e e'
    omega
theorem date_order {n n' : Int} {y mo d y' mo' d' s s' : Nat} (h : DayIs n y mo d) (h' : DayIs n' y' mo' d') (hs : s < 86400) (hs' : s' < 86400) :
    Op.bytesLess (dateS y mo d s) (dateS y' mo' d' s') = decide (n * 86400 + s < n' * 86400 + s') := by
  obtain ⟨f1, f2, f3, _⟩ := h.fits
  obtain ⟨g1, g2, g3, _⟩ := h'.fits
  rw [dateS_stem, dateS_stem]
  unfold stemS
  simp only [List.append_assoc, List.cons_append]
  rw [bl_digS (n := 4) (by omega) (by omega), bl_same, bl_digS (n := 2) (by omega) (by omega), bl_same, bl_digS (n := 2) (by omega) (by omega), bl_same, bl_digS (n := 2) (by omega) (by omega), bl_same, bl_digS (n := 2) (by omega) (by omega), bl_same, bl_digS (n := 2) (by omega) (by omega)]
  rw [bl_irr, Bool.and_false, Bool.or_false]
  obtain ⟨o1, o2, o3⟩ := day_order h h'
  obtain ⟨p1, p2, p3⟩ := day_order h' h
  rw [Bool.eq_iff_iff]
  simp only [Bool.or_eq_true, Bool.and_eq_true, decide_eq_true_eq]
  rcases Nat.lt_trichotomy y y' with hy | hy | hy
  · have := o1 hy; exact ⟨fun _ => by omega, fun _ => .inl hy⟩
  · rcases Nat.lt_trichotomy mo mo' with hm | hm | hm
    · have := o2 hy hm; exact ⟨fun _ => by omega, fun _ => .inr ⟨hy, .inl hm⟩⟩
    · have := o3 hy hm
      constructor <;> intro hh <;> omega
    · have := p2 hy.symm hm
      constructor <;> intro hh <;> omega
  · have := p1 hy
    constructor <;> intro hh <;> omega
end Go.Ez
