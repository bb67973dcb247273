/-
  THE DOCUMENT's SIGNS: hblref1.Sign, Count, Valid; hblref6.Clean; hbllaw6.escaped: what each answers.
-/
import Derived.Test.YtlflpbflpcmckaaDoorXmU
namespace Go.Ez
open Go Go.Proofs Go.RowKit Go.Lib
set_option linter.unusedSimpArgs false
set_option linter.unusedVariables false
theorem decodeN_prefix {n b0 b1 b2 b3 n' c0 c1 c2 c3 : Nat} (hg : ¬ ((decodeN n b0 b1 b2 b3).1 = 65533 ∧ (decodeN n b0 b1 b2 b3).2 = 1)) (hn : (decodeN n b0 b1 b2 b3).2 ≤ n')
    (h0 : c0 = b0) (h1 : 1 < (decodeN n b0 b1 b2 b3).2 → c1 = b1) (h2 : 2 < (decodeN n b0 b1 b2 b3).2 → c2 = b2) (h3 : 3 < (decodeN n b0 b1 b2 b3).2 → c3 = b3) : decodeN n' c0 c1 c2 c3 = decodeN n b0 b1 b2 b3 := by
  subst h0
  unfold decodeN at *
  by_cases e1 : c0 < 128
  · simp only [e1, if_true]
  · simp only [e1, if_false] at *
    by_cases e2 : c0 / 32 = 6 ∧ (1 < n ∧ b1 / 64 = 2)
    · rw [if_pos e2] at *
      split at hg
      · rename_i h5
        rw [if_pos h5] at h1 hn ⊢
        have := h1 (by simp)
        subst this
        rw [if_pos ⟨e2.1, by simp only at hn; omega, e2.2.2⟩, if_pos h5]
      · exact absurd ⟨rfl, rfl⟩ hg
    · rw [if_neg e2] at *
      by_cases e3 : c0 / 16 = 14 ∧ (1 < n ∧ b1 / 64 = 2) ∧ (2 < n ∧ b2 / 64 = 2)
      · rw [if_pos e3] at *
        split at hg
        · rename_i h5
          rw [if_pos h5] at h1 h2 hn ⊢
          have := h1 (by simp)
          have := h2 (by simp)
          subst c1 c2
          simp only at hn
          rw [if_neg (by omega), if_pos ⟨e3.1, ⟨by omega, e3.2.1.2⟩, by omega, e3.2.2.2⟩, if_pos h5]
        · exact absurd ⟨rfl, rfl⟩ hg
      · rw [if_neg e3] at *
        by_cases e4 : c0 / 8 = 30 ∧ (1 < n ∧ b1 / 64 = 2) ∧ (2 < n ∧ b2 / 64 = 2) ∧ (3 < n ∧ b3 / 64 = 2)
        · rw [if_pos e4] at *
          split at hg
          · rename_i h5
            rw [if_pos h5] at h1 h2 h3 hn ⊢
            have := h1 (by simp)
            have := h2 (by simp)
            have := h3 (by simp)
            subst c1 c2 c3
            simp only at hn
            rw [if_neg (by omega), if_neg (by omega), if_pos ⟨e4.1, ⟨by omega, e4.2.1.2⟩, ⟨by omega, e4.2.2.1.2⟩, by omega, e4.2.2.2.2⟩, if_pos h5]
          · exact absurd ⟨rfl, rfl⟩ hg
        · rw [if_neg e4] at *
          exact absurd ⟨rfl, rfl⟩ hg
theorem decode_prefix {l r : Txt} (hne : l ≠ []) (hg : ¬ badL l) : decodeL (l.take (decodeL l).2 ++ r) = decodeL l := by
  obtain ⟨f1, f2, _, _⟩ := dec_facts l hne
  have hw := f1 hg
  have hget : ∀ j, j < (decodeL l).2 → (l.take (decodeL l).2 ++ r).getD j 0 = l.getD j 0 := fun j hj => by
    rw [List.getD_eq_getElem?_getD, List.getD_eq_getElem?_getD, List.getElem?_append_left (by rw [List.length_take]; omega), List.getElem?_take_of_lt hj]
  rw [decodeL_N, decodeL_N l] at *
  unfold badL at hg
  rw [decodeL_N] at hg
  refine decodeN_prefix hg ?_ ?_ ?_ ?_ ?_
  · rw [List.length_append, List.length_take]; omega
  · rw [hget 0 (by omega)]
  · intro h; rw [hget 1 h]
  · intro h; rw [hget 2 h]
  · intro h; rw [hget 3 h]
theorem count_step {l : Txt} (hne : l ≠ []) : runeCountL l = 1 + runeCountL (l.drop (decodeL l).2) := by
  have hl : 0 < l.length := List.length_pos_iff.2 hne
  have hsz : (⟨l.toArray⟩ : ByteArray).size = l.length := by show l.toArray.size = _; simp
  have hw := (dec_facts l hne).2.1
  have e1 : runeCountL l = 1 + runeCountFrom ⟨l.toArray⟩ (l.length - 1) (decodeL l).2 := by
    unfold runeCountL runeCount
    rw [hsz, show l.length = (l.length - 1) + 1 by omega]
    simp only [runeCountFrom]
    rw [if_pos (by rw [hsz]; exact hl), Nat.zero_add]
    rfl
  rw [e1]
  congr 1
  have e2 := tail_count ⟨l.toArray⟩ (decodeL l).2 (l.length - 1) 0
  rw [Nat.add_zero] at e2
  rw [← e2]
  unfold runeCountL runeCount
  have hx : (⟨l.toArray⟩ : ByteArray).extract (decodeL l).2 (⟨l.toArray⟩ : ByteArray).size = ⟨(l.drop (decodeL l).2).toArray⟩ := by
    have e := ext_list ⟨l.toArray⟩ (decodeL l).2
    cases h : (⟨l.toArray⟩ : ByteArray).extract (decodeL l).2 (⟨l.toArray⟩ : ByteArray).size with
    | mk d =>
      rw [h] at e
      simp only at e
      rw [← e]
  rw [hx]
  have hsz2 : (⟨(l.drop (decodeL l).2).toArray⟩ : ByteArray).size = l.length - (decodeL l).2 := by show (l.drop (decodeL l).2).toArray.size = _; simp
  exact fuel_enough _ _ _ _ (by omega) (by omega)
/-- value, width, whether -/
def sgR (l : Txt) : Nat × Nat × Bool := if badL l then (0, 0, false) else ((decodeL l).1, (decodeL l).2, true)
/-- bytes that go on, taken in -/
def accF (b : Nat → Nat) (a : Nat) : Nat → Nat
  | 0 => a
  | k + 1 => accF b a k * 64 + b (k + 1) % 64
def heads (c m a low : Nat) : Prop := (m = 1 ∧ c / 32 = 6 ∧ a = c % 32 ∧ low = 128) ∨ (m = 2 ∧ c / 16 = 14 ∧ a = c % 16 ∧ low = 2048) ∨ (m = 3 ∧ c / 8 = 30 ∧ a = c % 8 ∧ low = 65536)
theorem badL_of {l : Txt} (h : decodeL l = (65533, 1)) : sgR l = (0, 0, false) := by
  have hb : badL l := by unfold badL; rw [h]; exact ⟨rfl, rfl⟩
  unfold sgR; rw [if_pos hb]
theorem sgR_of {l : Txt} {v w : Nat} (h : decodeL l = (v, w)) (hw : v < 65533 ∨ 2 ≤ w) : sgR l = (v, w, true) := by
  have hb : ¬ badL l := by
    unfold badL
    rw [h]
    rintro ⟨h1, h2⟩
    simp only at h1 h2
    omega
  unfold sgR; rw [if_neg hb, h]
theorem sg_cont {l : Txt} {m a low j : Nat} (h : heads (l.getD 0 0).toNat m a low) (h1 : 1 ≤ j) (hj : j ≤ m) (hb : ¬ (j < l.length ∧ (l.getD j 0).toNat / 64 = 2)) : sgR l = (0, 0, false) := by
  refine badL_of ?_
  rw [decodeL_N]
  have hjs : j = 1 ∨ j = 2 ∨ j = 3 := by unfold heads at h; omega
  generalize l.length = n at *
  unfold heads at h
  unfold decodeN
  rcases hjs with rfl | rfl | rfl <;>
  · rw [if_neg (by omega), if_neg (by omega), if_neg (by omega), if_neg (by omega)]
theorem sg_all {l : Txt} {m a low v : Nat} (h : heads (l.getD 0 0).toNat m a low) (hb : ∀ j, 1 ≤ j → j ≤ m → (j < l.length ∧ (l.getD j 0).toNat / 64 = 2)) (hv : v = accF (fun j => (l.getD j 0).toNat) a m) :
    ((v < low ∨ 1114111 < v ∨ (55296 ≤ v ∧ v ≤ 57343)) → sgR l = (0, 0, false)) ∧ (¬ (v < low ∨ 1114111 < v ∨ (55296 ≤ v ∧ v ≤ 57343)) → sgR l = (v, m + 1, true)) := by
  have h0 := (l.getD 0 0).toNat_lt
  have b1 := hb 1 (by decide)
  have b2 := hb 2 (by decide)
  have b3 := hb 3 (by decide)
  unfold heads at h
  rcases h with ⟨rfl, h1, h2, h3⟩ | ⟨rfl, h1, h2, h3⟩ | ⟨rfl, h1, h2, h3⟩
  · have q1 := b1 (by decide)
    have ev : (l.getD 0 0).toNat % 32 * 64 + (l.getD 1 0).toNat % 64 = v := by rw [hv, h2]; rfl
    have vl : v < 2048 := by omega
    have e : decodeL l = (if v ≥ 128 then (v, 2) else (65533, 1)) := by
      rw [decodeL_N]; unfold decodeN
      rw [if_neg (by omega), if_pos ⟨h1, q1⟩, ev]
    constructor
    · intro hc
      rw [if_neg (by omega)] at e
      exact badL_of e
    · intro hc
      rw [if_pos (by omega)] at e
      exact sgR_of e (.inr (by omega))
  · have q1 := b1 (by decide)
    have q2 := b2 (by decide)
    have ev : (l.getD 0 0).toNat % 16 * 4096 + (l.getD 1 0).toNat % 64 * 64 + (l.getD 2 0).toNat % 64 = v := by
      have : v = ((l.getD 0 0).toNat % 16 * 64 + (l.getD 1 0).toNat % 64) * 64 + (l.getD 2 0).toNat % 64 := by rw [hv, h2]; rfl
      omega
    have e : decodeL l = (if v ≥ 2048 ∧ (v < 55296 ∨ (57344 ≤ v ∧ v ≤ 1114111)) then (v, 3) else (65533, 1)) := by
      rw [decodeL_N]; unfold decodeN
      rw [if_neg (by omega), if_neg (by omega), if_pos ⟨h1, q1, q2⟩, ev]
    constructor
    · intro hc
      rw [if_neg (by omega)] at e
      exact badL_of e
    · intro hc
      rw [if_pos (by omega)] at e
      exact sgR_of e (.inr (by omega))
  · have q1 := b1 (by decide)
    have q2 := b2 (by decide)
    have q3 := b3 (by decide)
    have ev : (l.getD 0 0).toNat % 8 * 262144 + (l.getD 1 0).toNat % 64 * 4096 + (l.getD 2 0).toNat % 64 * 64 + (l.getD 3 0).toNat % 64 = v := by
      have : v = (((l.getD 0 0).toNat % 8 * 64 + (l.getD 1 0).toNat % 64) * 64 + (l.getD 2 0).toNat % 64) * 64 + (l.getD 3 0).toNat % 64 := by rw [hv, h2]; rfl
      omega
    have e : decodeL l = (if v ≥ 65536 ∧ (v < 55296 ∨ (57344 ≤ v ∧ v ≤ 1114111)) then (v, 4) else (65533, 1)) := by
      rw [decodeL_N]; unfold decodeN
      rw [if_neg (by omega), if_neg (by omega), if_neg (by omega), if_pos ⟨h1, q1, q2, q3⟩, ev]
    constructor
    · intro hc
      rw [if_neg (by omega)] at e
      exact badL_of e
    · intro hc
      rw [if_pos (by omega)] at e
      exact sgR_of e (.inr (by omega))
theorem sg_head {l : Txt} (h : 128 ≤ (l.getD 0 0).toNat) (h1 : (l.getD 0 0).toNat / 32 ≠ 6) (h2 : (l.getD 0 0).toNat / 16 ≠ 14) (h3 : (l.getD 0 0).toNat / 8 ≠ 30) : sgR l = (0, 0, false) := by
  refine badL_of ?_
  rw [decodeL_N]; unfold decodeN
  rw [if_neg (by omega), if_neg (by omega), if_neg (by omega), if_neg (by omega)]
theorem sg_ascii {c : UInt8} {r : Txt} (h : c.toNat < 128) : sgR (c :: r) = (c.toNat, 1, true) := by
  exact sgR_of (dec_ascii h) (.inl (by omega))
theorem shl_or6 {a x : Nat} (hx : x < 64) : a * 2 ^ 6 ||| x = a * 64 + x := by
  have := Nat.shiftLeft_add_eq_or_of_lt (i := 6) (b := x) (by omega) a
  rw [Nat.shiftLeft_eq] at this
  rw [← this]
theorem accF_lt (b : Nat → Nat) {a : Nat} (ha : a < 32) : ∀ k, k ≤ 3 → accF b a k < 32 * 64 ^ k
  | 0, _ => by simpa [accF] using ha
  | k + 1, h => by
    have := accF_lt b ha k (by omega)
    rw [accF, Nat.pow_succ]
    have : b (k + 1) % 64 < 64 := Nat.mod_lt _ (by decide)
    omega
end Go.Ez
namespace Go.Proofs.YtlflpbflpcmckaaDoor
open Go Go.Ez Go.RowKit Go.Lib
set_option linter.unusedSimpArgs false
set_option linter.unusedVariables false
section
variable {w0 W W' : World} {l R : List As} {RR : Value → World → Prop} {t s : Txt} {c : UInt8} {b n : Nat} {v : Value}
theorem drop_ne {s : Txt} {i : Nat} (h : i < s.length) : s.drop i ≠ [] := fun e => by have := congrArg List.length e; rw [List.length_drop, List.length_nil] at this; omega
/-- hblref1.Sign -/
theorem rsgn_spec {p : Nat} (hp : p < s.length) (hs : s.length ≤ 1000000000) (k : RR (.tuple #[nV .i64 (sgR (s.drop p)).1, nV .i64 (sgR (s.drop p)).2.1, .bool (sgR (s.drop p)).2.2]) W) : CallF Tryd.prog 61 #[strV s, nV .i64 p] W RR := by
  refine sh61_calls ?_
  unfold sh61
  have hd : s.drop p = s[p] :: s.drop (p + 1) := List.drop_eq_getElem_cons hp
  have ga : s[p]? = some s[p] := List.getElem?_eq_getElem hp
  have hdl : (s.drop p).length = s.length - p := List.length_drop
  have hget : ∀ j, p + j < s.length → s[p + j]? = some ((s.drop p).getD j 0) := fun j hj => by
    rw [List.getD_eq_getElem?_getD, List.getElem?_drop, List.getElem?_eq_getElem hj]; rfl
  have h0 : (s.drop p).getD 0 0 = s[p] := by rw [hd]; rfl
  generalize s[p] = c at *
  have hc := c.toNat_lt
  have hl1 : 1 ≤ (s.drop p).length := by omega
  refine x_index ga ?_
  refine v_ofByte Tryd.underlying5 Tryd.underlying3 (by decide) ?_
  refine a_lss (ifd (fun h1 => ?_) fun h1 => ?_)
  · rw [hd, sg_ascii (by omega)] at k
    exact k
  rw [← h0] at hc h1 ⊢
  generalize s.drop p = r at *
  clear hd ga h0
  have bad : sgR r = (0, 0, false) → RR (.tuple #[.int .i64 0, .int .i64 0, .bool false]) W := fun e => by rw [e] at k; exact k
  refine jni (fun vs W' => ∃ m a low : Nat, vs = [strV s, nV .i64 p, nV .i64 m, nV .i64 a, nV .i64 low] ∧ heads (r.getD 0 0).toNat m a low ∧ W' = W) ?_ ?_
  · rintro vs W' _ ⟨m, a, low, rfl, hh, rfl⟩
    refine app5 ?_
    have hm : m ≤ 3 ∧ a < 32 ∧ 1 ≤ m := by unfold heads at hh; omega
    refine lpx (α := Nat) (fun i => [nV .i64 (accF (fun j => (r.getD j 0).toNat) a i), nV .i64 (i + 1 : Nat)]) (fun i W1 => i ≤ m ∧ (∀ j, 1 ≤ j → j ≤ i → (j < r.length ∧ (r.getD j 0).toNat / 64 = 2)) ∧ W1 = W') (fun i => m - i) 0 (fun _ => rfl) rfl ⟨Nat.zero_le _, fun j h1 h2 => by omega, rfl⟩ ?_
    rintro next i W1 hnext ⟨hi, hall, rfl⟩
    refine app2 ?_
    have hlt := accF_lt (fun j => (r.getD j 0).toNat) hm.2.1 i (by omega)
    have h64 : 64 ^ i ≤ 64 ^ 3 := Nat.pow_le_pow_right (by decide) (by omega)
    have h64' : (64 : Nat) ^ 3 = 262144 := by decide
    refine a_leq (ifd (fun g1 => ?_) fun g1 => ?_)
    · have him : i < m := by omega
      refine a_add64 (by omega) (by omega) ?_
      rw [show ((p : Int) + ((i + 1 : Nat) : Int)) = ((p + (i + 1) : Nat) : Int) by push_cast; rfl]
      refine x_len (a_geq (ifd (fun g2 => bad (sg_cont hh (j := i + 1) (by omega) (by omega) (by omega))) fun g2 => ?_))
      refine a_add64 (by omega) (by omega) ?_
      rw [show ((p : Int) + ((i + 1 : Nat) : Int)) = ((p + (i + 1) : Nat) : Int) by push_cast; rfl]
      refine x_index (hget (i + 1) (by omega)) ?_
      refine a_shrN (n := (r.getD (i + 1) 0).toNat) (m := 6) (by decide) ?_
      refine w_neq (ifd (fun g3 => bad (sg_cont hh (j := i + 1) (by omega) (by omega) (by omega))) fun g3 => ?_)
      have hb := (r.getD (i + 1) 0).toNat_lt
      refine a_shlN (m := 6) (by decide) (le_i64 (by omega)) ?_
      refine a_add64 (by omega) (by omega) ?_
      rw [show ((p : Int) + ((i + 1 : Nat) : Int)) = ((p + (i + 1) : Nat) : Int) by push_cast; rfl]
      refine x_index (hget (i + 1) (by omega)) ?_
      refine a_andN (n := (r.getD (i + 1) 0).toNat) (m := 63) (le_u8 hb) (le_u8 (by decide)) ?_
      have e63 : (r.getD (i + 1) 0).toNat &&& 63 = (r.getD (i + 1) 0).toNat % 64 := Nat.and_two_pow_sub_one_eq_mod _ 6
      rw [e63]
      refine v_convN (n := (r.getD (i + 1) 0).toNat % 64) Tryd.underlying5 Tryd.underlying3 (le_i64 (by omega)) ?_
      refine a_orN (le_i64 (by omega)) (le_i64 (by omega)) ?_
      rw [shl_or6 (by omega)]
      refine a_add64 (by omega) (by omega) ⟨rfl, rfl, rfl, rfl, ?_⟩
      rw [show (((i + 1 : Nat) : Int) + 1) = ((i + 1 + 1 : Nat) : Int) by push_cast; rfl]
      refine hnext (i + 1) _ (by omega) ⟨by omega, fun j h1 h2 => ?_, rfl⟩
      by_cases hj : j ≤ i
      · exact hall j h1 hj
      · obtain rfl : j = i + 1 := by omega
        exact ⟨by omega, by omega⟩
    · obtain rfl : i = m := by omega
      obtain ⟨eb, eg⟩ := sg_all hh hall rfl
      generalize accF (fun j => (r.getD j 0).toNat) a i = V at *
      refine jni (fun vs W' => vs = [nV .i64 i, nV .i64 V] ∧ ¬ (V < low ∨ 1114111 < V ∨ (55296 ≤ V ∧ V ≤ 57343)) ∧ W' = W1) ?_ ?_
      · rintro vs W' _ ⟨rfl, hno, rfl⟩
        refine app2 ?_
        rw [eg hno] at k
        refine a_add64 (by omega) (by omega) ?_
        rw [show ((i : Int) + 1) = ((i + 1 : Nat) : Int) by push_cast; rfl]
        exact k
      · refine a_lss (ifd (fun g2 => bad (eb (.inl (by omega)))) fun g2 => ?_)
        refine a_gtr (ifd (fun g3 => bad (eb (.inr (.inl (by omega))))) fun g3 => ?_)
        refine a_geq (ifd (fun g4 => ?_) fun g4 => ⟨rfl, by omega, rfl⟩)
        refine a_leq (ifd (fun g5 => bad (eb (.inr (.inr (by omega))))) fun g5 => ⟨rfl, by omega, rfl⟩)
  · have e31 : (r.getD 0 0).toNat &&& 31 = (r.getD 0 0).toNat % 32 := Nat.and_two_pow_sub_one_eq_mod _ 5
    have e15 : (r.getD 0 0).toNat &&& 15 = (r.getD 0 0).toNat % 16 := Nat.and_two_pow_sub_one_eq_mod _ 4
    have e7 : (r.getD 0 0).toNat &&& 7 = (r.getD 0 0).toNat % 8 := Nat.and_two_pow_sub_one_eq_mod _ 3
    refine a_geq (ifd (fun g1 => a_leq (ifd (fun g2 => ?_) fun g2 => ?_)) fun g1 => ?_)
    · refine a_andN (n := (r.getD 0 0).toNat) (m := 31) (le_i64 (by omega)) (le_i64 (by omega)) ?_
      rw [e31]
      exact ⟨1, _, 128, rfl, .inl ⟨rfl, by omega, rfl, rfl⟩, rfl⟩
    all_goals
      refine jni (fun vs W' => ∃ m a low : Nat, vs = [strV s, nV .i64 p, nV .i64 m, nV .i64 a, nV .i64 low] ∧ heads (r.getD 0 0).toNat m a low ∧ W' = W) (by rintro vs W' _ ⟨m, a, low, rfl, hh, rfl⟩; exact app5 ⟨m, a, low, rfl, hh, rfl⟩) ?_
      refine a_geq (ifd (fun g3 => a_leq (ifd (fun g4 => ?_) fun g4 => ?_)) fun g3 => ?_)
      · refine a_andN (n := (r.getD 0 0).toNat) (m := 15) (le_i64 (by omega)) (le_i64 (by omega)) ?_
        rw [e15]
        exact ⟨2, _, 2048, rfl, .inr (.inl ⟨rfl, by omega, rfl, rfl⟩), rfl⟩
      all_goals
        refine a_geq (ifd (fun g5 => a_leq (ifd (fun g6 => ?_) fun g6 => ?_)) fun g5 => ?_)
        · refine a_andN (n := (r.getD 0 0).toNat) (m := 7) (le_i64 (by omega)) (le_i64 (by omega)) ?_
          rw [e7]
          exact ⟨3, _, 65536, rfl, .inr (.inr ⟨rfl, by omega, rfl, rfl⟩), rfl⟩
        · exact bad (sg_head (by omega) (by omega) (by omega) (by omega))
        · exact bad (sg_head (by omega) (by omega) (by omega) (by omega))
/-- hblref1.Count -/
theorem rcount_spec (hs : s.length ≤ 1000000000) (k : RR (.int .i64 (countS s)) W) : CallF Tryd.prog 50 #[strV s] W RR := by
  refine sh50_calls ?_
  unfold sh50
  unfold countS at k
  refine lpx (α := Nat × Nat) (fun A => [nV .i64 A.1, nV .i64 A.2]) (fun A W' => W' = W ∧ A.2 ≤ s.length ∧ A.1 ≤ A.2 ∧ validD (s.drop A.2) = validD s ∧ A.1 + runeCountL (s.drop A.2) = runeCountL s) (fun A => s.length - A.2) (0, 0) (fun _ => rfl) rfl ⟨rfl, Nat.zero_le _, Nat.le_refl _, rfl, Nat.zero_add _⟩ ?_
  rintro next ⟨n, i⟩ W1 hnext ⟨rfl, h1, h2, h3, h4⟩
  simp only at h1 h2 h3 h4
  refine app2 ?_
  refine x_len (a_lss (ifd (fun hc => ?_) fun hc => ?_))
  · have hi : i < s.length := by dsimp only at hc; omega
    have hne := drop_ne hi
    have hdl : (s.drop i).length = s.length - i := List.length_drop
    refine rsgn_spec hi hs ?_
    have hst := validD_step (s.drop i) hne
    unfold sgR
    by_cases hb : badL (s.drop i)
    · rw [if_pos hb]
      refine a_ext0 (a_ext1 (a_ext2 (a_not (ift ?_))))
      rw [if_pos (show (decodeL (s.drop i)).1 = 65533 ∧ (decodeL (s.drop i)).2 = 1 from hb)] at hst
      rw [← h3, hst] at k
      exact k
    · rw [if_neg hb]
      refine a_ext0 (a_ext1 (a_ext2 (a_not (iff' ?_))))
      obtain ⟨f1, f2, _, _⟩ := dec_facts (s.drop i) hne
      have hw := f1 hb
      rw [if_neg (show ¬ ((decodeL (s.drop i)).1 = 65533 ∧ (decodeL (s.drop i)).2 = 1) from hb)] at hst
      have hcs := count_step hne
      rw [List.drop_drop] at hst hcs
      generalize decodeL (s.drop i) = D at *
      refine a_add64 (by dsimp only; omega) (by dsimp only; omega) (a_add64 (by dsimp only; omega) (by dsimp only; omega) ⟨rfl, ?_⟩)
      rw [show ((n : Int) + 1) = ((n + 1 : Nat) : Int) by push_cast; rfl, show ((i : Int) + (D.2 : Int)) = ((i + D.2 : Nat) : Int) by push_cast; rfl]
      exact hnext (n + 1, i + D.2) _ (by simp only; omega) ⟨rfl, by simp only; omega, by simp only; omega, by simp only; rw [← hst]; exact h3, by simp only; omega⟩
  · have hi : i = s.length := by dsimp only at hc; omega
    rw [hi, List.drop_length] at h3 h4
    have hv : validD s = true := h3.symm
    have hc0 : runeCountL ([] : Txt) = 0 := rfl
    rw [hv, if_pos rfl, ← h4, hc0, Nat.add_zero] at k
    exact k
/-- hblref1.Valid -/
theorem rvalid_spec (hs : s.length ≤ 1000000000) (k : RR (.bool (validD s)) W) : CallF Tryd.prog 32 #[strV s] W RR := by
  refine sh32_calls ?_
  unfold sh32
  refine rcount_spec hs (a_geq ?_)
  have : decide (0 ≤ countS s) = validD s := by
    unfold countS
    cases hv : validD s with
    | true => simp
    | false => simp
  rw [this]; exact k
/-- hblref6.blank -/
theorem rblank_spec (k : RR (.bool (XRd.isBl c)) W) : CallF Tryd.prog 31 #[byteV c] W RR := by
  refine sh31_calls ?_
  unfold sh31
  have key : ∀ b, b = XRd.isBl c → RR (.bool b) W := fun b e => by rw [e]; exact k
  unfold XRd.isBl at key
  refine w_eqC 32 rfl (ifd (fun h1 => key _ ?_) fun h1 => w_eqC 9 rfl (ifd (fun h2 => key _ ?_) fun h2 => w_eqC 10 rfl (ifd (fun h3 => key _ ?_) fun h3 => w_eqC 13 rfl (key _ ?_))))
  · subst h1; decide
  · subst h2; decide
  · subst h3; decide
  · rw [show (c == 32) = false from beq_false_of_ne h1, show (c == 9) = false from beq_false_of_ne h2, show (c == 10) = false from beq_false_of_ne h3]
    rfl
/-- UTF-8, without signs below 32 but blanks -/
def cleanS (s : Txt) : Bool := s.all (fun c => decide (32 ≤ c.toNat) || XRd.isBl c) && validD s
theorem clean_spec (hs : s.length ≤ 1000000) (k : RR (.bool (cleanS s)) W) : CallF Tryd.prog 11 #[strV s] W RR := by
  refine sh11_calls ?_
  unfold sh11
  refine lpx (α := Nat) (fun i => [nV .i64 i]) (fun i W' => W' = W ∧ i ≤ s.length ∧ ((s.drop i).all fun c => decide (32 ≤ c.toNat) || XRd.isBl c) = s.all fun c => decide (32 ≤ c.toNat) || XRd.isBl c) (fun i => s.length - i) 0 (fun _ => rfl) rfl ⟨rfl, Nat.zero_le _, rfl⟩ ?_
  rintro next i W1 hnext ⟨rfl, h1, h2⟩
  refine app1 ?_
  refine x_len (a_lss (ifd (fun hc => ?_) fun hc => ?_))
  · have hi : i < s.length := by omega
    have ga : s[i]? = some s[i] := List.getElem?_eq_getElem hi
    rw [List.drop_eq_getElem_cons hi, List.all_cons] at h2
    generalize s[i] = x at ga h2
    have hx := x.toNat_lt
    refine jni (fun vs W' => vs = [strV s, nV .i64 i] ∧ (decide (32 ≤ x.toNat) || XRd.isBl x) = true ∧ W' = W1) ?_ ?_
    · rintro vs W' _ ⟨rfl, hok, rfl⟩
      refine app2 ?_
      rw [hok, Bool.true_and] at h2
      refine a_add64 (by omega) (by omega) ⟨rfl, ?_⟩
      rw [show ((i : Int) + 1) = ((i + 1 : Nat) : Int) by push_cast; rfl]
      exact hnext (i + 1) _ (by omega) ⟨rfl, by omega, h2⟩
    · refine x_index ga (a_lss (ifd (fun hl => ?_) fun hl => ?_))
      · refine x_index ga (rblank_spec (a_not (ifnb (fun hb => ?_) fun hb => ?_)))
        · unfold cleanS at k
          rw [← h2, hb, decide_eq_false (by omega)] at k
          exact k
        · exact ⟨rfl, by rw [hb]; simp, rfl⟩
      · exact ⟨rfl, by rw [decide_eq_true (by omega)]; rfl, rfl⟩
  · have hi : i = s.length := by omega
    rw [hi, List.drop_length, List.all_nil] at h2
    refine rvalid_spec (by omega) ?_
    unfold cleanS at k
    rw [← h2, Bool.true_and] at k
    exact k
/-- a byte, escaped -/
def escB (c : UInt8) : Txt := if c = 60 then [38, 108, 116, 59] else if c = 62 then [38, 103, 116, 59] else if c = 38 then [38, 97, 109, 112, 59] else if c = 34 then [38, 113, 117, 111, 116, 59] else [c]
def escS (s : Txt) : Txt := s.flatMap escB
theorem escS_snoc (s : Txt) (c : UInt8) : escS (s ++ [c]) = escS s ++ escB c := by simp [escS]
theorem escS_app (a b : Txt) : escS (a ++ b) = escS a ++ escS b := by simp [escS]
theorem escB_len (c : UInt8) : 1 ≤ (escB c).length ∧ (escB c).length ≤ 6 := by unfold escB; (repeat' split) <;> simp
theorem escS_len : ∀ s : Txt, s.length ≤ (escS s).length ∧ (escS s).length ≤ 6 * s.length
  | [] => ⟨Nat.le_refl _, Nat.le_refl _⟩
  | c :: s => by
    have h1 := escS_len s
    have h2 := escB_len c
    have : escS (c :: s) = escB c ++ escS s := rfl
    rw [this, List.length_append, List.length_cons]
    omega
theorem escaped_spec (hs : s.length ≤ 1000000) (k : RR (strV (escS s)) W) : CallF Tryd.prog 12 #[strV s] W RR := by
  refine sh12_calls ?_
  unfold sh12
  refine lpx (α := Nat) (fun i => [strV (escS (s.take i)), nV .i64 i]) (fun i W' => W' = W ∧ i ≤ s.length) (fun i => s.length - i) 0 (fun _ => rfl) rfl ⟨rfl, Nat.zero_le _⟩ ?_
  rintro next i W1 hnext ⟨rfl, h1⟩
  refine app2 ?_
  refine x_len (a_lss (ifd (fun hc => ?_) fun hc => ?_))
  · have hi : i < s.length := by omega
    have ga : s[i]? = some s[i] := List.getElem?_eq_getElem hi
    have ht : s.take (i + 1) = s.take i ++ [s[i]] := take_snoc ga
    generalize s[i] = x at ga ht
    have hel := escS_len (s.take i)
    rw [List.length_take] at hel
    refine x_index ga ?_
    have go : ∀ (y : Txt), y = escS (s.take (i + 1)) → ([strV s, strV y, nV .i64 i] : List Value) = [strV s, strV (escS (s.take (i + 1))), nV .i64 i] ∧ W1 = W1 := fun y e => ⟨by rw [e], rfl⟩
    have fin : ∀ vs W', (vs : List Value) = [strV s, strV (escS (s.take (i + 1))), nV .i64 i] ∧ W' = W1 → True := fun _ _ _ => trivial
    refine jni (fun vs W' => vs = [strV s, strV (escS (s.take (i + 1))), nV .i64 i] ∧ W' = W1) ?_ ?_
    · rintro vs W' _ ⟨rfl, rfl⟩
      refine app3 ?_
      refine a_add64 (by omega) (by omega) ⟨rfl, ?_⟩
      rw [show ((i : Int) + 1) = ((i + 1 : Nat) : Int) by push_cast; rfl]
      exact hnext (i + 1) _ (by omega) ⟨rfl, by omega⟩
    rw [ht, escS_snoc] at go
    rw [ht, escS_snoc]
    have pass : ∀ vs W', vs.length = 3 → (vs = [strV s, strV (escS (s.take i) ++ escB x), nV .i64 i] ∧ W' = W1) → (vs = [strV s, strV (escS (s.take i) ++ escB x), nV .i64 i] ∧ W' = W1) := fun _ _ _ h => h
    refine w_eqC 60 rfl (ifd (fun h60 => ?_) fun h60 => ?_)
    · refine a_cat (l := escS (s.take i)) (m := [38, 108, 116, 59]) (by simp; omega) (go _ ?_)
      unfold escB; rw [if_pos h60]
    refine jni (fun vs W' => vs = [strV s, strV (escS (s.take i) ++ escB x), nV .i64 i] ∧ W' = W1) (by rintro vs W' _ ⟨rfl, rfl⟩; exact app3 ⟨rfl, rfl⟩) ?_
    refine w_eqC 62 rfl (ifd (fun h62 => ?_) fun h62 => ?_)
    · refine a_cat (l := escS (s.take i)) (m := [38, 103, 116, 59]) (by simp; omega) (go _ ?_)
      unfold escB; rw [if_neg h60, if_pos h62]
    refine jni (fun vs W' => vs = [strV s, strV (escS (s.take i) ++ escB x), nV .i64 i] ∧ W' = W1) (by rintro vs W' _ ⟨rfl, rfl⟩; exact app3 ⟨rfl, rfl⟩) ?_
    refine w_eqC 38 rfl (ifd (fun h38 => ?_) fun h38 => ?_)
    · refine a_cat (l := escS (s.take i)) (m := [38, 97, 109, 112, 59]) (by simp; omega) (go _ ?_)
      unfold escB; rw [if_neg h60, if_neg h62, if_pos h38]
    refine jni (fun vs W' => vs = [strV s, strV (escS (s.take i) ++ escB x), nV .i64 i] ∧ W' = W1) (by rintro vs W' _ ⟨rfl, rfl⟩; exact app3 ⟨rfl, rfl⟩) ?_
    refine w_eqC 34 rfl (ifd (fun h34 => ?_) fun h34 => ?_)
    · refine a_cat (l := escS (s.take i)) (m := [38, 113, 117, 111, 116, 59]) (by simp; omega) (go _ ?_)
      unfold escB; rw [if_neg h60, if_neg h62, if_neg h38, if_pos h34]
    · refine a_add64 (by omega) (by omega) ?_
      rw [show ((i : Int) + 1) = ((i + 1 : Nat) : Int) by push_cast; rfl]
      refine x_cut (by omega) (by omega) ?_
      have : (s.drop i).take (i + 1 - i) = [x] := by
        rw [Nat.add_sub_cancel_left]
        have := List.getElem?_drop (xs := s) (i := i) (j := 0)
        rw [Nat.add_zero, ga] at this
        cases hd : s.drop i with
        | nil => rw [hd] at this; cases this
        | cons y r => rw [hd] at this; cases this; rfl
      rw [this]
      refine a_cat (l := escS (s.take i)) (m := [x]) (by simp; omega) (go _ ?_)
      unfold escB; rw [if_neg h60, if_neg h62, if_neg h38, if_neg h34]
  · have hi : i = s.length := by omega
    rw [hi, List.take_length]
    exact k
end
end Go.Proofs.YtlflpbflpcmckaaDoor
