/-
  TOKENS, plainly: numbers in few bytes, digits of 16, tokens in bytes: no program in sight.
-/
import Derived.Test.YtknbnfpdcbpoeaaFrmP
namespace Go.Ez
open Go
set_option linter.unusedSimpArgs false
set_option linter.unusedVariables false

/-! ### numbers in few bytes -/
def varB (n : Nat) : List UInt8 := if n < 128 then [UInt8.ofNat n] else UInt8.ofNat (n % 128 + 128) :: varB (n / 128)
theorem varB_small {n : Nat} (h : n < 128) : varB n = [UInt8.ofNat n] := by rw [varB, if_pos h]
theorem varB_big {n : Nat} (h : ¬ n < 128) : varB n = UInt8.ofNat (n % 128 + 128) :: varB (n / 128) := by rw [varB, if_neg h]
theorem varB_len : ∀ (k : Nat) {n : Nat}, n < 128 ^ (k + 1) → (varB n).length ≤ k + 1
  | 0, n, h => by rw [varB_small (by omega)]; simp
  | k + 1, n, h => by
    by_cases hn : n < 128
    · rw [varB_small hn]; simp
    · rw [varB_big hn, List.length_cons]
      have h2 : n < 128 * 128 ^ (k + 1) := by have := Nat.pow_succ 128 (k + 1); rw [Nat.mul_comm] at this; omega
      have := varB_len k (n := n / 128) (Nat.div_lt_of_lt_mul h2)
      omega
theorem varB_len8 {n : Nat} (h : n < 72057594037927936) : (varB n).length ≤ 8 := varB_len 7 (by omega)
theorem varB_pos (n : Nat) : 0 < (varB n).length := by
  rw [varB]; split <;> simp

/-- what ReadVar does from byte i on: the number, how many bytes, the error -/
def rvGo : List UInt8 → Nat → Nat → Nat × Nat × Nat
  | [], _, _ => (0, 0, 2)
  | c :: r, i, n =>
    if c.toNat < 128 then (if c.toNat = 0 ∧ 0 < i then (0, 0, 4) else (n + c.toNat * 2 ^ (7 * i), i + 1, 0))
    else if i = 7 then (0, 0, 4) else rvGo r (i + 1) (n + (c.toNat - 128) * 2 ^ (7 * i))
/-- what ReadVar answers: the number, the place behind it, the error -/
def rvR (l : List UInt8) (a : Int) : Nat × Nat × Nat :=
  if a < 0 ∨ l.length < a then (0, 0, 1) else let x := rvGo (l.drop a.toNat) 0 0; if x.2.2 = 0 then (x.1, a.toNat + x.2.1, 0) else (0, 0, x.2.2)

theorem rvGo_bound : ∀ (r : List UInt8) (i n : Nat), i ≤ 7 → n < 2 ^ (7 * i) → (rvGo r i n).2.2 = 0 → (rvGo r i n).1 < 72057594037927936 ∧ i < (rvGo r i n).2.1 ∧ (rvGo r i n).2.1 ≤ i + r.length
  | [], i, n, _, _, h => by simp [rvGo] at h
  | c :: r, i, n, hi, hn, h => by
    have hc := c.toNat_lt
    have hp : 2 ^ (7 * (i + 1)) = 2 ^ (7 * i) * 128 := by rw [Nat.mul_add, Nat.pow_add]
    have hp8 : 2 ^ (7 * (i + 1)) ≤ 2 ^ 56 := Nat.pow_le_pow_right (by omega) (by omega)
    unfold rvGo at h ⊢
    split
    · rename_i h1
      rw [if_pos h1] at h
      split
      · rename_i h2; rw [if_pos h2] at h; cases h
      · have hm : c.toNat * 2 ^ (7 * i) ≤ 127 * 2 ^ (7 * i) := Nat.mul_le_mul_right _ (by omega)
        simp only [List.length_cons]
        refine ⟨?_, by omega, by omega⟩
        omega
    · rename_i h1
      rw [if_neg h1] at h
      split
      · rename_i h2; rw [if_pos h2] at h; cases h
      · rename_i h2
        rw [if_neg h2] at h
        have hm : (c.toNat - 128) * 2 ^ (7 * i) ≤ 127 * 2 ^ (7 * i) := Nat.mul_le_mul_right _ (by omega)
        have := rvGo_bound r (i + 1) (n + (c.toNat - 128) * 2 ^ (7 * i)) (by omega) (by omega) h
        simp only [List.length_cons]
        omega
theorem rvGo_varB : ∀ (k i m n : Nat) (r : List UInt8), i + k ≤ 7 → m < 128 ^ (k + 1) → (0 < i → 0 < m) → rvGo (varB m ++ r) i n = (n + m * 2 ^ (7 * i), i + (varB m).length, 0)
  | k, i, m, n, r, hk, hm, hi => by
    by_cases h : m < 128
    · have e : (UInt8.ofNat m).toNat = m := by rw [UInt8.toNat_ofNat']; exact Nat.mod_eq_of_lt (by omega)
      rw [varB_small h]
      show rvGo (UInt8.ofNat m :: r) i n = _
      unfold rvGo
      rw [e, if_pos h, if_neg (by omega)]
      rfl
    · have e : (UInt8.ofNat (m % 128 + 128)).toNat = m % 128 + 128 := by rw [UInt8.toNat_ofNat']; exact Nat.mod_eq_of_lt (by omega)
      obtain ⟨k, rfl⟩ : ∃ k', k = k' + 1 := ⟨k - 1, by
        have : k ≠ 0 := fun h0 => by rw [h0] at hm; omega
        omega⟩
      rw [varB_big h]
      show rvGo (UInt8.ofNat (m % 128 + 128) :: (varB (m / 128) ++ r)) i n = _
      unfold rvGo
      have h2 : m < 128 * 128 ^ (k + 1) := by have := Nat.pow_succ 128 (k + 1); rw [Nat.mul_comm] at this; omega
      rw [e, if_neg (by omega), if_neg (by omega), rvGo_varB k (i + 1) (m / 128) _ r (by omega) (Nat.div_lt_of_lt_mul h2) (by omega), List.length_cons]
      have hp : 2 ^ (7 * (i + 1)) = 128 * 2 ^ (7 * i) := by rw [Nat.mul_add, Nat.pow_add, Nat.mul_comm]
      have hd : m = m % 128 + 128 * (m / 128) := (Nat.mod_add_div m 128).symm
      have e1 : n + (m % 128 + 128 - 128) * 2 ^ (7 * i) + m / 128 * 2 ^ (7 * (i + 1)) = n + m * 2 ^ (7 * i) := by
        have e2 : m % 128 + 128 - 128 = m % 128 := by omega
        rw [e2, hp]
        conv => rhs; rw [hd]
        rw [Nat.add_mul, Nat.mul_comm 128 (m / 128), Nat.mul_assoc, Nat.add_assoc]
      rw [e1]
      simp only [Prod.mk.injEq, true_and, and_true]
      omega
theorem rv_varB {m : Nat} {l r : List UInt8} {a : Nat} (hm : m < 72057594037927936) (ha : a ≤ l.length) (hl : l.drop a = varB m ++ r) : rvR l a = (m, a + (varB m).length, 0) := by
  unfold rvR
  rw [if_neg (by omega), Int.toNat_natCast, hl, rvGo_varB 7 0 m 0 r (by omega) (by omega) (by omega)]
  simp
theorem rvR_bound {l : List UInt8} {a : Nat} (ha : a ≤ l.length) : ((rvR l a).2.2 = 0 → a < (rvR l a).2.1 ∧ (rvR l a).2.1 ≤ l.length) ∧ (rvR l a).1 < 72057594037927936 ∧ (rvR l a).2.1 ≤ l.length := by
  unfold rvR
  rw [if_neg (by omega), Int.toNat_natCast]
  have h := rvGo_bound (l.drop a) 0 0 (by omega) (by omega)
  rw [List.length_drop] at h
  dsimp only
  split
  · rename_i h0
    have := h h0
    dsimp only
    omega
  · rename_i h0
    dsimp only
    refine ⟨fun h1 => absurd h1 h0, by omega, by omega⟩

/-! ### digits of 16 -/
def digs : List UInt8 := [48, 49, 50, 51, 52, 53, 54, 55, 56, 57, 97, 98, 99, 100, 101, 102]
def dig (n : Nat) : UInt8 := digs.getD n 0
def hexL (l : List UInt8) : List UInt8 := l.flatMap fun c => [dig (c.toNat / 16), dig (c.toNat % 16)]
theorem hexL_append (l m : List UInt8) : hexL (l ++ m) = hexL l ++ hexL m := by simp [hexL]
theorem hexL_length (l : List UInt8) : (hexL l).length = 2 * l.length := by
  induction l with
  | nil => rfl
  | cons c l ih => simp only [hexL, List.flatMap_cons, List.length_append, List.length_cons, List.length_nil] at *; omega
theorem dig_at {n : Nat} (h : n < 16) : digs[n]? = some (dig n) := by
  unfold dig
  have : n < digs.length := h
  rw [List.getD_eq_getElem?_getD, List.getElem?_eq_getElem this]
  rfl
/-- a digit's place -/
def undig (c : UInt8) : Int := firstIdx ⟨digs.toArray⟩ c
theorem undig_dig : ∀ n, n < 16 → undig (dig n) = n := by decide +kernel
theorem undig_cases0 : ∀ n, n < 256 → undig (UInt8.ofNat n) = -1 ∨ (0 ≤ undig (UInt8.ofNat n) ∧ undig (UInt8.ofNat n) < 16 ∧ dig (undig (UInt8.ofNat n)).toNat = UInt8.ofNat n) := by decide +kernel
theorem undig_cases (c : UInt8) : undig c = -1 ∨ (0 ≤ undig c ∧ undig c < 16 ∧ dig (undig c).toNat = c) := by
  have := undig_cases0 c.toNat c.toNat_lt
  simpa using this
theorem dig_is : ∀ n, n < 16 → (48 ≤ (dig n).toNat ∧ (dig n).toNat ≤ 57) ∨ (97 ≤ (dig n).toNat ∧ (dig n).toNat ≤ 102) := by decide +kernel

/-- bytes of digits -/
def unhex : List UInt8 → Option (List UInt8)
  | [] => some []
  | [_] => none
  | a :: b :: r => if undig a < 0 ∨ undig b < 0 then none else (unhex r).map fun m => UInt8.ofNat ((undig a).toNat * 16 + (undig b).toNat) :: m
theorem unhex_hexL : ∀ l : List UInt8, unhex (hexL l) = some l
  | [] => rfl
  | c :: l => by
    have hc := c.toNat_lt
    have e1 := undig_dig (c.toNat / 16) (by omega)
    have e2 := undig_dig (c.toNat % 16) (by omega)
    have : hexL (c :: l) = dig (c.toNat / 16) :: dig (c.toNat % 16) :: hexL l := rfl
    rw [this]
    unfold unhex
    rw [e1, e2, if_neg (by omega), unhex_hexL l]
    simp only [Option.map_some, Int.toNat_natCast]
    have e3 : c.toNat / 16 * 16 + c.toNat % 16 = c.toNat := by omega
    rw [e3]
    simp
theorem hexL_inj {l m : List UInt8} (h : hexL l = hexL m) : l = m := by
  have h1 := unhex_hexL l
  rw [h, unhex_hexL m] at h1
  exact (Option.some.inj h1).symm

/-! ### names, tokens -/
def okc (c : UInt8) : Prop := (97 ≤ c.toNat ∧ c.toNat ≤ 122) ∨ (48 ≤ c.toNat ∧ c.toNat ≤ 57) ∨ c.toNat = 45
instance (c : UInt8) : Decidable (okc c) := by unfold okc; exact inferInstance
def nameOk (l : List UInt8) : Prop := (∀ c ∈ l, okc c) ∧ l ≠ [] ∧ l.length ≤ 20
instance (l : List UInt8) : Decidable (nameOk l) := by unfold nameOk; exact inferInstance
/-- may it be a token? -/
def mayT (u : List UInt8) (f t : Int) (k : List UInt8) : Prop := nameOk u ∧ 0 ≤ f ∧ f ≤ 1099511627776 ∧ (if t = 0 then k = [] else max f 1 ≤ t ∧ t ≤ 1099511627776 ∧ k ≠ [] ∧ k.length ≤ 100)
instance (u : List UInt8) (f t : Int) (k : List UInt8) : Decidable (mayT u f t k) := by unfold mayT; exact inferInstance
/-- a token's bytes, its text -/
def tokB (u : List UInt8) (f t : Nat) (k : List UInt8) : List UInt8 := varB f ++ varB t ++ (varB u.length ++ u) ++ (varB k.length ++ k)
def tokS (u : List UInt8) (f t : Nat) (k : List UInt8) : List UInt8 := hexL (tokB u f t k ++ be (crc (tokB u f t k)) 4)
theorem mayT_nat {u k : List UInt8} {f t : Int} (h : mayT u f t k) : 0 ≤ f ∧ f ≤ 1099511627776 ∧ 0 ≤ t ∧ t ≤ 1099511627776 ∧ u.length ≤ 20 ∧ k.length ≤ 100 := by
  obtain ⟨h1, h2, h3, h4⟩ := h
  have := h1.2.2
  split at h4
  · subst h4; simp; omega
  · omega

/-- what stands ahead of a number in few bytes is read back -/
theorem varB_front {m n : Nat} {r s : List UInt8} (hm : m < 72057594037927936) (hn : n < 72057594037927936) (h : varB m ++ r = varB n ++ s) : m = n ∧ r = s := by
  have h1 := rvGo_varB 7 0 m 0 r (by omega) (by omega) (by omega)
  have h2 := rvGo_varB 7 0 n 0 s (by omega) (by omega) (by omega)
  rw [h, h2] at h1
  simp only [Nat.mul_zero, Nat.pow_zero, Nat.mul_one, Nat.zero_add, Prod.mk.injEq] at h1
  obtain ⟨h3, _⟩ := h1
  subst h3
  exact ⟨rfl, List.append_cancel_left h⟩
theorem tokB_inj {u u' k k' : List UInt8} {f f' t t' : Nat} {r r' : List UInt8} (hf : f < 72057594037927936) (hf' : f' < 72057594037927936) (ht : t < 72057594037927936) (ht' : t' < 72057594037927936)
    (hu : u.length < 72057594037927936) (hu' : u'.length < 72057594037927936) (hk : k.length < 72057594037927936) (hk' : k'.length < 72057594037927936) (h : tokB u f t k ++ r = tokB u' f' t' k' ++ r') : u = u' ∧ f = f' ∧ t = t' ∧ k = k' ∧ r = r' := by
  unfold tokB at h
  simp only [List.append_assoc] at h
  obtain ⟨e1, h⟩ := varB_front hf hf' h
  obtain ⟨e2, h⟩ := varB_front ht ht' h
  obtain ⟨e3, h⟩ := varB_front hu hu' h
  obtain ⟨e4, h⟩ := List.append_inj h e3
  obtain ⟨e5, h⟩ := varB_front hk hk' h
  obtain ⟨e6, h⟩ := List.append_inj h e5
  exact ⟨e4, e1, e2, e6, h⟩

end Go.Ez
