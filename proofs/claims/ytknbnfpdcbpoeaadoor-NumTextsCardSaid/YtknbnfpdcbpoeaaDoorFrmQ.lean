/-
  FRAMES, plainly: records cut off; a record with one byte turned is none.
-/
import Derived.Test.YtknbnfpdcbpoeaaDoorFrmP
namespace Go.Ez
open Go
set_option linter.unusedSimpArgs false
set_option linter.unusedVariables false

/-! ### the sum tells bytes apart -/
theorem crc1_inj {s t : Nat} (hs : s < 4294967296) (ht : t < 4294967296) (h : crc1 s = crc1 t) : s = t := by
  have top : ∀ {u : Nat}, u < 4294967296 → (u % 2 = 1 → 2147483648 ≤ crc1 u) ∧ (u % 2 = 0 → crc1 u < 2147483648) := by
    intro u hu
    unfold crc1
    refine ⟨fun h1 => ?_, fun h0 => ?_⟩
    · rw [if_pos h1]
      have hb : (u / 2 ^^^ 3988292384).testBit 31 = true := by
        rw [Nat.testBit_xor, Nat.testBit_lt_two_pow (x := u / 2) (i := 31) (by omega)]
        decide
      exact Nat.ge_two_pow_of_testBit hb
    · rw [if_neg (by omega)]
      omega
  have h1 := top hs
  have h2 := top ht
  have hx : ∀ a b : Nat, a ^^^ 3988292384 = b ^^^ 3988292384 → a = b := by
    intro a b hab
    have : (a ^^^ 3988292384) ^^^ 3988292384 = (b ^^^ 3988292384) ^^^ 3988292384 := by rw [hab]
    rwa [Nat.xor_assoc, Nat.xor_assoc, Nat.xor_self, Nat.xor_zero, Nat.xor_zero] at this
  rcases Nat.mod_two_eq_zero_or_one s with hs0 | hs0 <;> rcases Nat.mod_two_eq_zero_or_one t with ht0 | ht0
  · unfold crc1 at h
    rw [if_neg (by omega), if_neg (by omega)] at h
    omega
  · have := h1.2 hs0
    have := h2.1 ht0
    omega
  · have := h1.1 hs0
    have := h2.2 ht0
    omega
  · unfold crc1 at h
    rw [if_pos hs0, if_pos ht0] at h
    have := hx _ _ h
    omega
theorem crcK_inj : ∀ (k : Nat) {s t : Nat}, s < 4294967296 → t < 4294967296 → crcK k s = crcK k t → s = t
  | 0, _, _, _, _, h => h
  | k + 1, s, t, hs, ht, h => crc1_inj hs ht (crcK_inj k (crc1_lt hs) (crc1_lt ht) h)
theorem xor_right_inj {a b c : Nat} (h : a ^^^ c = b ^^^ c) : a = b := by
  have : (a ^^^ c) ^^^ c = (b ^^^ c) ^^^ c := by rw [h]
  rwa [Nat.xor_assoc, Nat.xor_assoc, Nat.xor_self, Nat.xor_zero, Nat.xor_zero] at this
theorem xor_left_inj {a b c : Nat} (h : c ^^^ a = c ^^^ b) : a = b := by
  rw [Nat.xor_comm c a, Nat.xor_comm c b] at h
  exact xor_right_inj h
theorem byte_lt32 (s : Nat) (b : UInt8) (hs : s < 4294967296) : s ^^^ b.toNat < 4294967296 := Nat.xor_lt_two_pow (n := 32) hs (by have := b.toNat_lt; omega)
theorem crcB_inj_s {s t : Nat} {b : UInt8} (hs : s < 4294967296) (ht : t < 4294967296) (h : crcB s b = crcB t b) : s = t :=
  xor_right_inj (crcK_inj 8 (byte_lt32 s b hs) (byte_lt32 t b ht) h)
theorem crcB_inj_b {s : Nat} {a b : UInt8} (hs : s < 4294967296) (h : crcB s a = crcB s b) : a = b :=
  UInt8.toNat_inj.1 (xor_left_inj (crcK_inj 8 (byte_lt32 s a hs) (byte_lt32 s b hs) h))
theorem crcS_inj_s : ∀ (l : List UInt8) {s t : Nat}, s < 4294967296 → t < 4294967296 → crcS l s = crcS l t → s = t
  | [], _, _, _, _, h => h
  | b :: l, s, t, hs, ht, h => crcB_inj_s hs ht (crcS_inj_s l (crcB_lt hs) (crcB_lt ht) h)
theorem crcS_append (l m : List UInt8) (s : Nat) : crcS (l ++ m) s = crcS m (crcS l s) := by simp [crcS, List.foldl_append]
/-- two texts that part in one byte have two sums -/
theorem crc_one {l m : List UInt8} {a b : UInt8} (h : crc (l ++ a :: m) = crc (l ++ b :: m)) : a = b := by
  unfold crc at h
  have h1 := xor_left_inj h
  rw [crcS_append, crcS_append] at h1
  have hl := crcS_lt l (s := 4294967295) (by decide)
  exact crcB_inj_b hl (crcS_inj_s m (crcB_lt hl) (crcB_lt hl) h1)

/-! ### a byte turned -/
theorem set_split {l : List UInt8} {i : Nat} {b : UInt8} (hi : i < l.length) : l.set i b = l.take i ++ b :: l.drop (i + 1) := by
  rw [List.set_eq_take_append_cons_drop, if_pos hi]
theorem split_at {l : List UInt8} {i : Nat} (hi : i < l.length) : l = l.take i ++ l[i] :: l.drop (i + 1) := by
  rw [← List.drop_eq_getElem_cons hi, List.take_append_drop]

/-- behind the length, a byte of a record turned: there is none -/
theorem nx_turned {p r : List UInt8} {i : Nat} {b : UInt8} (hp : p.length ≤ 60000) (h2 : 2 ≤ i) (hi : i < 6 + p.length) (hb : (fr p)[i]? ≠ some b) : nx ((fr p).set i b ++ r) = none := by
  have hfl := fr_length p
  -- the parts of the record
  have hparts : ∀ q : List UInt8, q.length = 6 + p.length → q.take 2 = be p.length 2 → (∀ s' : List UInt8, (q ++ s').take 2 = be p.length 2 ∧ ((q ++ s').drop 2).take 4 = (q.drop 2).take 4 ∧ ((q ++ s').drop 6).take p.length = q.drop 6 ∧ (q ++ s').length = 6 + p.length + s'.length) := by
    intro q hq hq2 s'
    refine ⟨?_, ?_, ?_, ?_⟩
    · rw [List.take_append_of_le_length (by omega), hq2]
    · rw [List.drop_append_of_le_length (by omega), List.take_append_of_le_length (by rw [List.length_drop]; omega)]
    · rw [List.drop_append_of_le_length (by omega), List.take_append_of_le_length (by rw [List.length_drop]; omega), List.take_of_length_le (by rw [List.length_drop]; omega)]
    · rw [List.length_append, hq]
  have hb2 : getB (be p.length 2) = p.length := by rw [be_mod]; exact Nat.mod_eq_of_lt (by omega)
  have f2 : (fr p).take 2 = be p.length 2 := by
    unfold fr
    rw [List.append_assoc, List.take_append_of_le_length (by rw [be_length]; omega), List.take_of_length_le (by rw [be_length]; omega)]
  have f6 : (fr p).drop 6 = p := by
    unfold fr
    rw [List.drop_append_of_le_length (by simp [be_length]), List.drop_of_length_le (by simp [be_length])]
    rfl
  have f4 : ((fr p).drop 2).take 4 = be (crc (be p.length 2 ++ p)) 4 := by
    unfold fr
    rw [List.append_assoc, List.drop_append_of_le_length (by rw [be_length]; omega), List.drop_of_length_le (by rw [be_length]; omega), List.nil_append, List.take_append_of_le_length (by rw [be_length]; omega), List.take_of_length_le (by rw [be_length]; omega)]
  have hg4 : getB (be (crc (be p.length 2 ++ p)) 4) = crc (be p.length 2 ++ p) := by rw [be_mod]; exact Nat.mod_eq_of_lt (crc_lt _)
  have s2 : ((fr p).set i b).take 2 = be p.length 2 := by rw [List.take_set_of_le (by omega), f2]
  obtain ⟨t2, t4, t6, tl⟩ := hparts ((fr p).set i b) (by rw [List.length_set, hfl]) s2 r
  have hne : (fr p)[i]'(by omega) ≠ b := fun e => hb (by rw [List.getElem?_eq_getElem (by omega), e])
  unfold nx
  rw [t2, hb2, if_neg (by omega), if_neg (by omega), if_neg (by omega), t4, t6, if_neg]
  by_cases h6 : i < 6
  · -- the sum itself is turned
    have d6 : ((fr p).set i b).drop 6 = p := by rw [List.drop_set, if_pos (by omega), f6]
    rw [d6]
    intro he
    have hl4 : (((fr p).set i b).drop 2).take 4 = (((fr p).drop 2).take 4).set (i - 2) b := by
      rw [List.drop_set, if_neg (by omega), List.take_set]
    rw [hl4, f4] at he
    replace he := he.trans hg4.symm
    have hlen : ((be (crc (be p.length 2 ++ p)) 4).set (i - 2) b).length = (be (crc (be p.length 2 ++ p)) 4).length := by rw [List.length_set]
    have := getB_inj hlen he
    rw [← f4] at this
    have hx : ((((fr p).drop 2).take 4).set (i - 2) b)[i - 2]? = (((fr p).drop 2).take 4)[i - 2]? := by rw [this]
    rw [List.getElem?_set_self (by rw [List.length_take, List.length_drop]; omega), List.getElem?_take_of_lt (by omega), List.getElem?_drop] at hx
    have e : 2 + (i - 2) = i := by omega
    rw [e] at hx
    exact hb hx.symm
  · -- a byte of the record's own is turned
    have d4 : (((fr p).set i b).drop 2).take 4 = ((fr p).drop 2).take 4 := by
      rw [List.drop_set, if_neg (by omega), List.take_set_of_le (by omega)]
    have d6 : ((fr p).set i b).drop 6 = p.set (i - 6) b := by rw [List.drop_set, if_neg (by omega), f6]
    rw [d4, f4, hg4, d6]
    intro he
    have hip : i - 6 < p.length := by omega
    have h1 := set_split (b := b) hip
    have h2 := split_at hip
    rw [h1] at he
    have he' : crc (be p.length 2 ++ p.take (i - 6) ++ p[i - 6] :: p.drop (i - 6 + 1)) = crc (be p.length 2 ++ p.take (i - 6) ++ b :: p.drop (i - 6 + 1)) := by
      rw [List.append_assoc, List.append_assoc, ← h2]
      exact he
    have := crc_one he'
    refine hb ?_
    have e : (fr p)[i]? = p[i - 6]? := by
      rw [← f6, List.getElem?_drop, f6]
      congr 1
      omega
    rw [e, List.getElem?_eq_getElem hip, this]

/-- a record cut off is none -/
theorem nx_cut {p r : List UInt8} {k : Nat} (hp : p.length ≤ 60000) (hk : k < 6 + p.length) : nx ((fr p ++ r).take k) = none := by
  have hfl := fr_length p
  have hl : ((fr p ++ r).take k).length = k := by rw [List.length_take, List.length_append]; omega
  unfold nx
  by_cases h2 : k < 2
  · rw [if_pos (by omega)]
  rw [if_neg (by omega)]
  have ht : ((fr p ++ r).take k).take 2 = be p.length 2 := by
    rw [List.take_take, Nat.min_eq_left (by omega)]
    unfold fr
    rw [List.append_assoc, List.append_assoc, List.take_append_of_le_length (by rw [be_length]; omega), List.take_of_length_le (by rw [be_length]; omega)]
  have hb2 : getB (be p.length 2) = p.length := by rw [be_mod]; exact Nat.mod_eq_of_lt (by omega)
  rw [ht, hb2, if_neg (by omega), if_pos (by omega)]

theorem frs_append (a b : List (List UInt8)) : frs (a ++ b) = frs a ++ frs b := by simp [frs]
theorem frs_split {l : List (List UInt8)} {j : Nat} {p : List UInt8} (h : l[j]? = some p) : frs l = frs (l.take j) ++ (fr p ++ frs (l.drop (j + 1))) := by
  obtain ⟨hj, hp⟩ := List.getElem?_eq_some_iff.1 h
  have e : l = l.take j ++ p :: l.drop (j + 1) := by rw [← hp, ← List.drop_eq_getElem_cons hj, List.take_append_drop]
  conv => lhs; rw [e]
  rw [frs_append]
  simp [frs]
/-- how many of l's records end at k or ahead of it -/
def Upto (l : List (List UInt8)) (k j : Nat) : Prop := j ≤ l.length ∧ sz (l.take j) ≤ k ∧ (j < l.length → k < sz (l.take (j + 1)))
theorem recs_upto {l : List (List UInt8)} {k j : Nat} (hl : ∀ p ∈ l, p.length ≤ 60000) (hk : k ≤ sz l) (h : Upto l k j) : recs ((frs l).take k) = l.take j := by
  obtain ⟨h1, h2, h3⟩ := h
  have hlt : ∀ p ∈ l.take j, p.length ≤ 60000 := fun p hp => hl p (List.mem_of_mem_take hp)
  rcases Nat.lt_or_ge j l.length with hj | hj
  · have hp := List.getElem?_eq_getElem hj
    have h3 := h3 hj
    rw [take_snoc hp, sz_snoc] at h3
    rw [frs_split hp]
    have e : k = (frs (l.take j)).length + (k - sz (l.take j)) := by rw [frs_length]; omega
    rw [e, List.take_length_add_append, recs_frs hlt, recs_none (nx_cut (hl _ (List.getElem_mem hj)) (by omega)), List.append_nil]
  · have : j = l.length := by omega
    subst this
    rw [List.take_length] at h2 hlt ⊢
    have e : k = (frs l).length := by rw [frs_length]; omega
    rw [e, List.take_length]
    have := recs_frs (r := []) hlt
    rwa [List.append_nil, recs_nil, List.append_nil] at this
/-- a byte of the records turned: those ahead of it stay, and behind them there is none if its place is behind the length -/
theorem recs_turned {l : List (List UInt8)} {q j : Nat} {b : UInt8} (hl : ∀ p ∈ l, p.length ≤ 60000) (hq : q < sz l) (h : Upto l q j) :
    (∃ more, recs ((frs l).set q b) = l.take j ++ more) ∧ (sz (l.take j) + 2 ≤ q → (frs l)[q]? ≠ some b → recs ((frs l).set q b) = l.take j) := by
  obtain ⟨h1, h2, h3⟩ := h
  have hlt : ∀ p ∈ l.take j, p.length ≤ 60000 := fun p hp => hl p (List.mem_of_mem_take hp)
  have hj : j < l.length := by
    rcases Nat.lt_or_ge j l.length with hj | hj
    · exact hj
    · have : j = l.length := by omega
      subst this
      rw [List.take_length] at h2
      omega
  have hp := List.getElem?_eq_getElem hj
  have h3 := h3 hj
  rw [take_snoc hp, sz_snoc] at h3
  have hfl := fr_length l[j]
  have hset : (frs l).set q b = frs (l.take j) ++ ((fr l[j]).set (q - sz (l.take j)) b ++ frs (l.drop (j + 1))) := by
    rw [frs_split hp, List.set_append_right _ _ (by rw [frs_length]; omega), frs_length, List.set_append_left _ _ (by omega)]
  rw [hset, recs_frs hlt]
  refine ⟨⟨_, rfl⟩, fun hq2 hb => ?_⟩
  rw [recs_none (nx_turned (hl _ (List.getElem_mem hj)) (by omega) (by omega) ?_), List.append_nil]
  intro he
  refine hb ?_
  rw [frs_split hp, List.getElem?_append_right (by rw [frs_length]; omega), frs_length, List.getElem?_append_left (by omega)]
  exact he

end Go.Ez
