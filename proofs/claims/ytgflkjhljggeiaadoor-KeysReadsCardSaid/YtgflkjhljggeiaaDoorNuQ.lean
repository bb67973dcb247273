/-
  NUMBERS, plainly: few bytes, digits; no program in sight.
-/
import Derived.Test.YtgflkjhljggeiaaDoorFrmP
import Derived.Test.YtgflkjhljggeiaaDoorOmP
import Derived.Lib.ItoaNum
import Derived.Lib.Repeat
import Derived.Lib.ItoaMem
namespace Go.Ez
open Go Go.Lib
set_option linter.unusedSimpArgs false
set_option linter.unusedVariables false
/-! ### few bytes -/
def vrF : Nat → Nat → Txt
  | 0, _ => []
  | k + 1, n => if n < 128 then [UInt8.ofNat n] else UInt8.ofNat (n % 128 + 128) :: vrF k (n / 128)
/-- a number in few bytes -/
def vr (n : Nat) : Txt := vrF 8 n
def varR (n : Int) : Txt × Nat := if 0 ≤ n ∧ n < 72057594037927936 then (vr n.toNat, 0) else ([], 1)
theorem nu8 {x : Nat} (h : x < 256) : (UInt8.ofNat x).toNat = x := by rw [UInt8.toNat_ofNat', Nat.mod_eq_of_lt h]
theorem vrF_len : ∀ {k n : Nat}, (vrF k n).length ≤ k
  | 0, _ => Nat.le_refl _
  | k + 1, n => by
    unfold vrF
    split
    · simp
    · have := vrF_len (k := k) (n := n / 128)
      rw [List.length_cons]; omega
theorem vrF_pos {k n : Nat} : 1 ≤ (vrF (k + 1) n).length := by
  unfold vrF
  split
  · simp
  · rw [List.length_cons]; omega
theorem vrF_mono : ∀ {k a b : Nat}, a ≤ b → (vrF k a).length ≤ (vrF k b).length
  | 0, _, _, _ => Nat.le_refl _
  | k + 1, a, b, h => by
    by_cases hb : b < 128
    · have e1 : vrF (k + 1) a = [UInt8.ofNat a] := by unfold vrF; rw [if_pos (by omega)]
      have e2 : vrF (k + 1) b = [UInt8.ofNat b] := by unfold vrF; rw [if_pos hb]
      rw [e1, e2]; exact Nat.le_refl _
    · by_cases ha : a < 128
      · have e1 : vrF (k + 1) a = [UInt8.ofNat a] := by unfold vrF; rw [if_pos ha]
        rw [e1]; exact vrF_pos
      · have e1 : vrF (k + 1) a = UInt8.ofNat (a % 128 + 128) :: vrF k (a / 128) := by rw [vrF, if_neg ha]
        have e2 : vrF (k + 1) b = UInt8.ofNat (b % 128 + 128) :: vrF k (b / 128) := by rw [vrF, if_neg hb]
        have := vrF_mono (k := k) (a := a / 128) (b := b / 128) (by omega)
        rw [e1, e2, List.length_cons, List.length_cons]; omega
/-- bytes read as a number: the sum, how many, the error -/
def rdv : Txt → Nat → Nat → Nat × Nat × Nat
  | [], _, _ => (0, 0, 2)
  | c :: t, i, acc =>
    if c.toNat < 128 ∧ (0 < c.toNat ∨ i = 0) then (acc + c.toNat % 128 * 128 ^ i, i + 1, 0)
    else if c.toNat = 0 ∨ i = 7 then (0, 0, 4) else rdv t (i + 1) (acc + c.toNat % 128 * 128 ^ i)
def readV (l : Txt) (a : Int) : Nat × Nat × Nat :=
  if a < 0 ∨ (l.length : Int) < a then (0, 0, 1) else let x := rdv (l.drop a.toNat) 0 0; (x.1, if x.2.2 = 0 then a.toNat + x.2.1 else 0, x.2.2)
theorem rdv_vr : ∀ {k n i acc : Nat} {r : Txt}, (n > 0 ∨ i = 0) → n < 128 ^ (k + 1) → i + k ≤ 7 → rdv (vrF (k + 1) n ++ r) i acc = (acc + n * 128 ^ i, i + (vrF (k + 1) n).length, 0)
  | k, n, i, acc, r, h0, hn, hi => by
    by_cases hs : n < 128
    · have e1 : vrF (k + 1) n = [UInt8.ofNat n] := by unfold vrF; rw [if_pos hs]
      rw [e1]
      show rdv (UInt8.ofNat n :: r) i acc = _
      unfold rdv
      rw [nu8 (by omega), if_pos ⟨hs, h0⟩, Nat.mod_eq_of_lt hs]
      rfl
    · have e1 : vrF (k + 1) n = UInt8.ofNat (n % 128 + 128) :: vrF k (n / 128) := by rw [vrF, if_neg hs]
      match k, hn, hi with
      | 0, hn, hi => simp at hn; omega
      | k + 1, hn, hi =>
        rw [e1, List.cons_append]
        unfold rdv
        rw [nu8 (by omega), if_neg (by omega), if_neg (by omega)]
        have hn2 : n / 128 < 128 ^ (k + 1) := by
          rw [Nat.div_lt_iff_lt_mul (by decide), ← Nat.pow_succ]; exact hn
        rw [rdv_vr (k := k) (n := n / 128) (i := i + 1) (acc := acc + (n % 128 + 128) % 128 * 128 ^ i) (r := r) (.inl (by omega)) hn2 (by omega)]
        have em : (n % 128 + 128) % 128 = n % 128 := by omega
        have en : acc + n % 128 * 128 ^ i + n / 128 * 128 ^ (i + 1) = acc + n * 128 ^ i := by
          have h1 : n = n % 128 + 128 * (n / 128) := by omega
          have h2 : n * 128 ^ i = n % 128 * 128 ^ i + n / 128 * (128 ^ i * 128) := by
            conv => lhs; rw [h1]
            rw [Nat.add_mul, Nat.mul_comm 128 (n / 128), Nat.mul_assoc, Nat.mul_comm 128]
          rw [Nat.pow_succ, h2, Nat.add_assoc]
        rw [em, en, List.length_cons]
        have : i + 1 + (vrF (k + 1) (n / 128)).length = i + ((vrF (k + 1) (n / 128)).length + 1) := by omega
        rw [this]
theorem rdv_back {n : Nat} {r : Txt} (hn : n < 72057594037927936) : rdv (vr n ++ r) 0 0 = (n, (vr n).length, 0) := by
  have := rdv_vr (k := 7) (n := n) (i := 0) (acc := 0) (r := r) (.inr rfl) (by simpa using hn) (by omega)
  simpa [vr] using this
theorem vr_inj {a b : Nat} {r : Txt} (ha : a < 72057594037927936) (hb : b < 72057594037927936) (h : vr b = vr a ++ r) : a = b := by
  have h1 := rdv_back (r := r) ha
  have h2 := rdv_back (r := []) hb
  rw [← h] at h1
  rw [List.append_nil] at h2
  rw [h2] at h1
  exact (congrArg Prod.fst h1).symm
theorem rdv_more : ∀ {l : Txt} {i acc : Nat}, (∀ c ∈ l, 128 ≤ c.toNat) → i + l.length ≤ 7 → rdv l i acc = (0, 0, 2)
  | [], _, _, _, _ => rfl
  | c :: t, i, acc, h, hi => by
    have hc := h c (by simp)
    rw [List.length_cons] at hi
    unfold rdv
    rw [if_neg (by omega), if_neg (by omega)]
    exact rdv_more (fun d hd => h d (by simp [hd])) (by omega)
theorem rdv_none : ∀ {l : Txt} {i acc : Nat}, (∀ c ∈ l, 128 ≤ c.toNat) → i + l.length ≤ 8 → 1 ≤ i + l.length → i ≤ 7 → rdv (l ++ [0]) i acc = (0, 0, 4)
  | [], i, acc, _, h1, h2, h7 => by
    show rdv [0] i acc = _
    unfold rdv
    have e : (0 : UInt8).toNat = 0 := rfl
    simp only [List.length_nil] at h2
    rw [e, if_neg (by omega), if_pos (.inl rfl)]
  | c :: t, i, acc, h, h1, h2, h7 => by
    have hc := h c (by simp)
    rw [List.length_cons] at h1
    rw [List.cons_append]
    unfold rdv
    rw [if_neg (by omega)]
    by_cases hi : i = 7
    · rw [if_pos (.inr hi)]
    · rw [if_neg (by omega)]
      exact rdv_none (fun d hd => h d (by simp [hd])) (by omega) (by omega) (by omega)
theorem vrF_high : ∀ {k n j : Nat}, j + 1 < (vrF k n).length → 128 ≤ ((vrF k n).getD j 0).toNat
  | 0, n, j, h => by simp [vrF] at h
  | k + 1, n, j, h => by
    by_cases hs : n < 128
    · have e1 : vrF (k + 1) n = [UInt8.ofNat n] := by unfold vrF; rw [if_pos hs]
      rw [e1] at h; simp at h
    · have e1 : vrF (k + 1) n = UInt8.ofNat (n % 128 + 128) :: vrF k (n / 128) := by rw [vrF, if_neg hs]
      rw [e1] at h ⊢
      match j with
      | 0 => show 128 ≤ (UInt8.ofNat (n % 128 + 128)).toNat; rw [nu8 (by omega)]; omega
      | j + 1 =>
        rw [List.length_cons] at h
        show 128 ≤ ((vrF k (n / 128)).getD j 0).toNat
        exact vrF_high (by omega)
theorem vr_take_high {n k : Nat} (h : k < (vr n).length) : ∀ c ∈ (vr n).take k, 128 ≤ c.toNat := by
  intro c hc
  obtain ⟨j, hj, e⟩ := List.getElem_of_mem hc
  rw [List.length_take] at hj
  rw [List.getElem_take] at e
  have := vrF_high (k := 8) (n := n) (j := j) (by unfold vr at h; omega)
  have hjl : j < (vr n).length := by omega
  have e2 : (vrF 8 n).getD j 0 = (vr n)[j] := by
    show (vr n).getD j 0 = _
    rw [List.getD_eq_getElem?_getD, List.getElem?_eq_getElem hjl]; rfl
  rw [e2, e] at this
  exact this
/-! ### digits -/
def dgs (n : Nat) : Nat → Txt
  | 0 => []
  | k + 1 => UInt8.ofNat (48 + n / 10 ^ k % 10) :: dgs n k
theorem dgs_len (n : Nat) : ∀ k, (dgs n k).length = k
  | 0 => rfl
  | k + 1 => by rw [dgs, List.length_cons, dgs_len n k]
theorem mod_ten (n k : Nat) : n % 10 ^ (k + 1) = n / 10 ^ k % 10 * 10 ^ k + n % 10 ^ k := by
  rw [Nat.pow_succ, Nat.mod_mul, Nat.mul_comm (10 ^ k), Nat.add_comm]
theorem dgs_less (a b : Nat) : ∀ k, (Op.bytesLess (dgs a k) (dgs b k) = decide (a % 10 ^ k < b % 10 ^ k)) ∧ (dgs a k = dgs b k ↔ a % 10 ^ k = b % 10 ^ k)
  | 0 => by simp [dgs, Op.bytesLess, Nat.mod_one]
  | k + 1 => by
    obtain ⟨i1, i2⟩ := dgs_less a b k
    rw [mod_ten a k, mod_ten b k]
    have ha : a % 10 ^ k < 10 ^ k := Nat.mod_lt _ (Nat.pow_pos (by decide))
    have hb : b % 10 ^ k < 10 ^ k := Nat.mod_lt _ (Nat.pow_pos (by decide))
    have hx : a / 10 ^ k % 10 < 10 := Nat.mod_lt _ (by decide)
    have hy : b / 10 ^ k % 10 < 10 := Nat.mod_lt _ (by decide)
    unfold dgs
    generalize a / 10 ^ k % 10 = x at *
    generalize b / 10 ^ k % 10 = y at *
    generalize a % 10 ^ k = u at *
    generalize b % 10 ^ k = v at *
    generalize 10 ^ k = T at *
    have ux : (UInt8.ofNat (48 + x)).toNat = 48 + x := nu8 (by omega)
    have uy : (UInt8.ofNat (48 + y)).toNat = 48 + y := nu8 (by omega)
    rcases Nat.lt_trichotomy x y with h | h | h
    · have hm : x * T + T ≤ y * T := by rw [← Nat.succ_mul]; exact Nat.mul_le_mul_right _ h
      constructor
      · have e1 : decide (UInt8.ofNat (48 + x) < UInt8.ofNat (48 + y)) = true := decide_eq_true (UInt8.lt_iff_toNat_lt.2 (by omega))
        rw [Op.bytesLess, e1, Bool.true_or]
        exact (decide_eq_true (by omega)).symm
      · constructor
        · intro e
          have := congrArg UInt8.toNat (List.cons.inj e).1
          omega
        · intro e; omega
    · subst h
      constructor
      · have e1 : decide (UInt8.ofNat (48 + x) < UInt8.ofNat (48 + x)) = false := decide_eq_false (fun h => by have := UInt8.lt_iff_toNat_lt.1 h; omega)
        rw [Op.bytesLess, e1, Bool.false_or, beq_self_eq_true, Bool.true_and, i1]
        refine decide_eq_decide.2 ?_
        omega
      · constructor
        · intro e; have := i2.1 (List.cons.inj e).2; omega
        · intro e; rw [i2.2 (by omega)]
    · have hm : y * T + T ≤ x * T := by rw [← Nat.succ_mul]; exact Nat.mul_le_mul_right _ h
      constructor
      · have e1 : decide (UInt8.ofNat (48 + x) < UInt8.ofNat (48 + y)) = false := decide_eq_false (fun h => by have := UInt8.lt_iff_toNat_lt.1 h; omega)
        have e2 : (UInt8.ofNat (48 + x) == UInt8.ofNat (48 + y)) = false := beq_eq_false_iff_ne.2 (fun h => by have := congrArg UInt8.toNat h; omega)
        rw [Op.bytesLess, e1, e2, Bool.false_or, Bool.false_and]
        exact (decide_eq_false (by omega)).symm
      · constructor
        · intro e
          have := congrArg UInt8.toNat (List.cons.inj e).1
          omega
        · intro e; omega
theorem dgs_cut (n : Nat) : ∀ k j, dgs n (k + j) = dgs (n / 10 ^ j) k ++ dgs n j
  | 0, j => by rw [Nat.zero_add]; rfl
  | k + 1, j => by
    have e : k + 1 + j = (k + j) + 1 := by omega
    rw [e]
    show UInt8.ofNat (48 + n / 10 ^ (k + j) % 10) :: dgs n (k + j) = UInt8.ofNat (48 + n / 10 ^ j / 10 ^ k % 10) :: dgs (n / 10 ^ j) k ++ dgs n j
    rw [dgs_cut n k j, Nat.div_div_eq_div_mul, ← Nat.pow_add, Nat.add_comm j k]
    rfl
theorem dgs_zero : ∀ k, dgs 0 k = List.replicate k 48
  | 0 => rfl
  | k + 1 => by
    rw [dgs, dgs_zero k, List.replicate_succ]
    simp
theorem dec_dgs (n : Nat) : decDigits n = dgs n (nDigits n) := by
  induction n using Nat.strongRecOn with
  | _ n ih =>
    by_cases h : n < 10
    · rw [decDigits, dif_pos h, nDigits_small h]
      show _ = [UInt8.ofNat (48 + n / 10 ^ 0 % 10)]
      rw [Nat.pow_zero, Nat.div_one, Nat.mod_eq_of_lt h]
    · rw [decDigits, dif_neg h, nDigits_big h, ih (n / 10) (by omega)]
      have := dgs_cut n (nDigits (n / 10)) 1
      rw [this, Nat.pow_one]
      show _ = _ ++ [UInt8.ofNat (48 + n / 10 ^ 0 % 10)]
      rw [Nat.pow_zero, Nat.div_one]
theorem pad_dgs {n w : Nat} (h : (decDigits n).length ≤ w) : repeatL [48] (w - (decDigits n).length) ++ decDigits n = dgs n w ∧ n < 10 ^ w := by
  have hlen : (decDigits n).length = nDigits n := decDigits_length n
  have hlt := lt_pow_nDigits n
  constructor
  · have e := dgs_cut n (w - nDigits n) (nDigits n)
    rw [show w - nDigits n + nDigits n = w by omega] at e
    rw [e, Nat.div_eq_of_lt hlt, dgs_zero, hlen, dec_dgs]
    congr 1
    have := repeatL_replicate 48 1 (w - nDigits n)
    rw [Nat.mul_one] at this
    exact this
  · exact Nat.lt_of_lt_of_le hlt (Nat.pow_le_pow_right (by decide) (by omega))
/-- a number in digits of a width -/
def digR (n width : Int) : Txt × Bool := if n < 0 ∨ width < 1 ∨ 18 < width ∨ width < ((decDigits n.toNat).length : Int) then ([], false) else (dgs n.toNat width.toNat, true)
end Go.Ez
