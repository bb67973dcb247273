/-
  DATES, plainly: days, months, seconds; texts read from the front. No program in sight.
-/
import Derived.Test.YtififikdlcohpaaDoorOmP
namespace Go.Ez
open Go
set_option linter.unusedSimpArgs false
set_option linter.unusedVariables false
def leapB (y : Int) : Bool := (decide (y % 4 = 0) && decide (y % 100 ≠ 0)) || decide (y % 400 = 0)
def lenM (y mo : Int) : Int := if mo = 2 then (if leapB y then 29 else 28) else if mo = 4 ∨ mo = 6 ∨ mo = 9 ∨ mo = 11 then 30 else 31
def firstD (y : Int) : Int := (y - 1) * 365 + (y - 1) / 4 - (y - 1) / 100 + (y - 1) / 400 - 719162
/-- the days of so many months -/
def sumL (y : Int) : Nat → Int
  | 0 => 0
  | n + 1 => sumL y n + lenM y (n + 1 : Nat)
def okM (y mo d h mi s : Int) : Bool := decide (1970 ≤ y ∧ y ≤ 9999 ∧ 1 ≤ mo ∧ mo ≤ 12 ∧ 1 ≤ d ∧ d ≤ lenM y mo ∧ 0 ≤ h ∧ h ≤ 23 ∧ 0 ≤ mi ∧ mi ≤ 59 ∧ 0 ≤ s ∧ s ≤ 60)
/-- a day's number -/
def dayN (y mo d : Int) : Int := firstD y + d - 1 + sumL y (mo - 1).toNat
def secN (y mo d h mi s : Int) : Int := dayN y mo d * 86400 + h * 3600 + mi * 60 + min s 59
def makeP (y mo d h mi s : Int) : Int × Bool := if okM y mo d h mi s then (secN y mo d h mi s, true) else (0, false)
def within (t : Int) : Bool := decide (0 ≤ t ∧ t < 253402300800)
theorem lenM_ge (y mo : Int) : 28 ≤ lenM y mo := by unfold lenM; (repeat (first | omega | split))
theorem lenM_le (y mo : Int) : lenM y mo ≤ 31 := by unfold lenM; (repeat (first | omega | split))
theorem sumL_ge (y : Int) (n : Nat) : 0 ≤ sumL y n := by
  induction n with
  | zero => exact Int.le_refl _
  | succ n ih => have := lenM_ge y (n + 1 : Nat); unfold sumL; omega
theorem sumL_le (y : Int) (n : Nat) : sumL y n ≤ 31 * n := by
  induction n with
  | zero => exact Int.le_refl _
  | succ n ih => have := lenM_le y (n + 1 : Nat); unfold sumL; omega
theorem sumL_year (y : Int) : sumL y 12 = 365 + if leapB y then 1 else 0 := by
  simp only [sumL, lenM]
  cases leapB y <;> simp
theorem firstD_next {y : Int} (h : 1 ≤ y) : firstD (y + 1) = firstD y + 365 + if leapB y then 1 else 0 := by
  unfold firstD leapB
  by_cases h4 : y % 4 = 0
  · by_cases h1 : y % 100 = 0
    · by_cases h0 : y % 400 = 0
      · simp [h4, h1, h0]; omega
      · simp [h4, h1, h0]; omega
    · have h0 : ¬ y % 400 = 0 := by omega
      simp [h4, h1, h0]; omega
  · have h1 : ¬ y % 100 = 0 := by omega
    have h0 : ¬ y % 400 = 0 := by omega
    simp [h4, h1, h0]; omega
theorem firstD_rng {y : Int} (h : 1970 ≤ y) (h' : y ≤ 10000) : 0 ≤ firstD y ∧ firstD y ≤ 3000000 := by unfold firstD; omega
theorem lenM_dec (y : Int) : lenM y 12 = 31 := by unfold lenM; simp

/-! ### a reader: the text left, is it none? -/
def isPreD (p s : Txt) : Bool := decide (s.take p.length = p)
def eatS (s p : Txt) : Txt := if isPreD p s then s.drop p.length else s
def wantsP (p : Txt) (x : Txt × Bool) : Txt × Bool := (eatS x.1 p, x.2 || !isPreD p x.1)
def isDig (c : UInt8) : Bool := decide (48 ≤ c.toNat) && decide (c.toNat ≤ 57)
def digs (most : Nat) (s : Txt) : Txt := (s.take most).takeWhile isDig
def numV : Txt → Int → Int
  | [], n => n
  | c :: l, n => numV l (n * 10 + ((c.toNat - 48 : Nat) : Int))
def numberP (least most : Nat) (x : Txt × Bool) : Int × (Txt × Bool) := (numV (digs most x.1) 0, (x.1.drop (digs most x.1).length, x.2 || decide ((digs most x.1).length < least)))
def oneP : List Txt → Txt → Nat × Txt
  | [], s => (0, s)
  | p :: l, s => if isPreD p s then (1, s.drop p.length) else (if (oneP l s).1 = 0 then 0 else (oneP l s).1 + 1, (oneP l s).2)
theorem takeWhile_stop {β : Type} {c : β → Bool} : ∀ {l : List β} {i : Nat}, i ≤ l.length → (∀ j y, j < i → l[j]? = some y → c y = true) → (∀ y, l[i]? = some y → c y = false) → l.takeWhile c = l.take i
  | [], i, _, _, _ => by simp
  | y :: l, 0, _, _, h2 => by rw [List.takeWhile_cons_of_neg (by simp [h2 y rfl])]; rfl
  | y :: l, i + 1, h0, h1, h2 => by
    rw [List.takeWhile_cons_of_pos (h1 0 y (by omega) rfl), List.take_succ_cons, takeWhile_stop (l := l) (i := i) (by simp at h0; omega) (fun j z hj hz => h1 (j + 1) z (by omega) hz) fun z hz => h2 z hz]
theorem digs_stop {most i : Nat} {s : Txt} (h1 : i ≤ most) (h2 : i ≤ s.length) (h3 : ∀ j y, j < i → s[j]? = some y → isDig y = true) (h4 : i < most → ∀ y, s[i]? = some y → isDig y = false) : digs most s = s.take i := by
  unfold digs
  rw [takeWhile_stop (i := i) (by rw [List.length_take]; omega) (fun j y hj hy => ?_) (fun y hy => ?_), List.take_take, Nat.min_eq_left h1]
  · rw [List.getElem?_take] at hy
    split at hy
    · exact h3 j y hj hy
    · cases hy
  · rw [List.getElem?_take] at hy
    split at hy
    · rename_i h; exact h4 h y hy
    · cases hy
theorem numV_append (l : Txt) (c : UInt8) (n : Int) : numV (l ++ [c]) n = numV l n * 10 + ((c.toNat - 48 : Nat) : Int) := by
  induction l generalizing n with
  | nil => rfl
  | cons a l ih => exact ih _
theorem numV_rng : ∀ (l : Txt) (n : Int), 0 ≤ n → (∀ c ∈ l, isDig c = true) → 0 ≤ numV l n ∧ numV l n < (n + 1) * (10 ^ l.length : Nat)
  | [], n, h, _ => by simp [numV]; omega
  | c :: l, n, h, hd => by
    have hc := hd c List.mem_cons_self
    unfold isDig at hc
    rw [Bool.and_eq_true, decide_eq_true_eq, decide_eq_true_eq] at hc
    have ih := numV_rng l (n * 10 + ((c.toNat - 48 : Nat) : Int)) (by omega) fun c hc => hd c (List.mem_cons_of_mem _ hc)
    refine ⟨ih.1, Int.lt_of_lt_of_le ih.2 ?_⟩
    have hle : n * 10 + ((c.toNat - 48 : Nat) : Int) + 1 ≤ (n + 1) * 10 := by omega
    have h1 := Int.mul_le_mul_of_nonneg_right hle (Int.natCast_nonneg (10 ^ l.length))
    rw [List.length_cons, Nat.pow_succ, Int.natCast_mul]
    rw [Int.mul_assoc, Int.mul_comm 10] at h1
    exact h1
theorem digs_all {most : Nat} {s : Txt} : ∀ c ∈ digs most s, isDig c = true := fun c hc => by
  unfold digs at hc
  exact List.all_eq_true.1 (List.all_takeWhile) c hc
theorem digs_len {most : Nat} {s : Txt} : (digs most s).length ≤ most ∧ (digs most s).length ≤ s.length := by
  have := (List.takeWhile_prefix (l := s.take most) isDig).length_le
  rw [List.length_take] at this
  unfold digs; omega
theorem oneP_at {l : List Txt} {s p : Txt} {i : Nat} (h : ∀ (j : Nat) (q : Txt), j < i → l[j]? = some q → isPreD q s = false) (hp : l[i]? = some p) (hh : isPreD p s = true) : oneP l s = (i + 1, s.drop p.length) := by
  induction l generalizing i with
  | nil => cases hp
  | cons q l ih =>
    cases i with
    | zero => cases hp; unfold oneP; rw [if_pos hh]
    | succ i =>
      unfold oneP
      rw [h 0 q (by omega) rfl, if_neg (by simp), ih (fun j q hj hq => h (j + 1) q (by omega) hq) hp]
      simp
theorem oneP_no {l : List Txt} {s : Txt} (h : ∀ (j : Nat) (q : Txt), l[j]? = some q → isPreD q s = false) : oneP l s = (0, s) := by
  induction l with
  | nil => rfl
  | cons q l ih =>
    unfold oneP
    rw [h 0 q rfl, if_neg (by simp), ih fun j q hq => h (j + 1) q hq]
    simp
theorem eatS_no {s p : Txt} (h : isPreD p s = false) : eatS s p = s := by unfold eatS; rw [h]; rfl
end Go.Ez
