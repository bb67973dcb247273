/-
  KEYS, plainly: a key is taken apart to its parts.
-/
import Derived.Test.YtgflkjhljggeiaaDoorKyP
namespace Go.Ez
open Go Go.Lib
set_option linter.unusedSimpArgs false
set_option linter.unusedVariables false
theorem idx_hit : ∀ {a r : Txt}, 47 ∉ a → index (a ++ 47 :: r) [47] = a.length
  | [], r, _ => by simp [index]
  | b :: a, r, h => by
    have hb : ¬ (47 : UInt8) = b := fun e => h (by simp [e])
    have ih := idx_hit (a := a) (r := r) (fun hm => h (by simp [hm]))
    rw [List.cons_append, index, ih]
    have h1 : List.isPrefixOf [47] (b :: (a ++ 47 :: r)) = false := by simp [List.isPrefixOf, hb]
    have h2 : ((a.length : Int) == -1) = false := beq_eq_false_iff_ne.2 (by omega)
    rw [h1, h2]
    simp
theorem idx_miss : ∀ {a : Txt}, 47 ∉ a → index a [47] = -1
  | [], _ => by simp [index]
  | b :: a, h => by
    have hb : ¬ (47 : UInt8) = b := fun e => h (by simp [e])
    have ih := idx_miss (a := a) (fun hm => h (by simp [hm]))
    rw [index, ih]
    have h1 : List.isPrefixOf [47] (b :: a) = false := by simp [List.isPrefixOf, hb]
    rw [h1]
    simp
def splK (s : Txt) : List Txt := splitK [47] 0 (count s [47]) s
theorem splF_K (s : Txt) : splF s = splK s := by
  unfold splF splK
  rw [splitB_data]
theorem splK_hit {a r : Txt} (h : 47 ∉ a) : splK (a ++ 47 :: r) = a :: splK r := by
  have hi := idx_hit (r := r) h
  unfold splK
  rw [count_hit (by simp) hi]
  have e1 : (a ++ 47 :: r).drop (a.length + 1) = r := by
    rw [← List.drop_drop, List.drop_left]; rfl
  rw [show ([47] : Txt).length = 1 from rfl, e1, Nat.add_comm, splitK, hi]
  have h2 : ((a.length : Int) == -1) = false := beq_eq_false_iff_ne.2 (by omega)
  rw [h2]
  simp only [Bool.false_eq_true, if_false, Int.toNat_natCast, Nat.add_zero, List.take_left, List.length_singleton]
  rw [e1]
theorem splK_miss {a : Txt} (h : 47 ∉ a) : splK a = [a] := by
  unfold splK
  rw [count_miss (idx_miss h)]
  rfl
theorem splF1 {a b : Txt} (ha : 47 ∉ a) (hb : 47 ∉ b) : splF (a ++ 47 :: b) = [a, b] := by rw [splF_K, splK_hit ha, splK_miss hb]
theorem splF2 {a b c : Txt} (ha : 47 ∉ a) (hb : 47 ∉ b) (hc : 47 ∉ c) : splF (a ++ 47 :: (b ++ 47 :: c)) = [a, b, c] := by rw [splF_K, splK_hit ha, splK_hit hb, splK_miss hc]
theorem splF3 {a b c d : Txt} (ha : 47 ∉ a) (hb : 47 ∉ b) (hc : 47 ∉ c) (hd : 47 ∉ d) : splF (a ++ 47 :: (b ++ 47 :: (c ++ 47 :: d))) = [a, b, c, d] := by rw [splF_K, splK_hit ha, splK_hit hb, splK_hit hc, splK_miss hd]
theorem parse_dgs (n : Nat) : ∀ (k acc : Nat), acc * 10 ^ k + 10 ^ k ≤ 1000000000000 → parseUint10 acc (dgs n k) = .ok (acc * 10 ^ k + n % 10 ^ k)
  | 0, acc, _ => by simp [dgs, parseUint10, Nat.mod_one]
  | k + 1, acc, h => by
    have hd : n / 10 ^ k % 10 < 10 := Nat.mod_lt _ (by decide)
    have hm := mod_ten n k
    rw [hm, dgs]
    have hT : 1 ≤ 10 ^ k := Nat.one_le_pow _ _ (by decide)
    have hs : (10 : Nat) ^ (k + 1) = 10 ^ k * 10 := Nat.pow_succ ..
    rw [hs] at h ⊢
    have ha : acc ≤ acc * (10 ^ k * 10) := Nat.le_mul_of_pos_right _ (by omega)
    generalize n / 10 ^ k % 10 = d at *
    have hdm : d * 10 ^ k ≤ 9 * 10 ^ k := Nat.mul_le_mul_right _ (by omega)
    have e1 : (acc * 10 + d) * 10 ^ k = acc * (10 ^ k * 10) + d * 10 ^ k := by rw [Nat.add_mul, Nat.mul_assoc, Nat.mul_comm 10 (10 ^ k)]
    have ih := parse_dgs n k (acc * 10 + d) (by rw [e1]; omega)
    have ec : (UInt8.ofNat (48 + d)).toNat = 48 + d := nu8 (by omega)
    unfold parseUint10
    rw [ec, if_pos ⟨by omega, by omega⟩, if_neg (by omega), if_neg (by omega), show 48 + d - 48 = d by omega, ih, e1, Nat.add_assoc]
theorem atoi_dgs {n : Nat} (h : n < 1000000) : atoiV (dgs n 6) = n := by
  have hp := parse_dgs n 6 0 (by decide)
  have hm : n % 10 ^ 6 = n := Nat.mod_eq_of_lt (by simpa using h)
  rw [Nat.zero_mul, Nat.zero_add, hm] at hp
  have hd : dgs n 6 = UInt8.ofNat (48 + n / 10 ^ 5 % 10) :: dgs n 5 := rfl
  have hc : (UInt8.ofNat (48 + n / 10 ^ 5 % 10)).toNat = 48 + n / 10 ^ 5 % 10 := nu8 (by omega)
  have ha : atoiAll (dgs n 6) = .ok (n : Int) := by
    rw [hd] at hp ⊢
    unfold atoiAll
    simp only [hc]
    rw [if_neg (by omega)]
    unfold parseMag
    rw [if_neg (by simp), hp]
    simp only
    rw [if_neg (by omega), if_neg (by omega), if_neg (by omega)]
  unfold atoiV
  rw [ha]
theorem dgs_no : ∀ (n k : Nat), 47 ∉ dgs n k
  | _, 0 => by simp [dgs]
  | n, k + 1 => by
    rw [dgs]
    intro hm
    rcases List.mem_cons.1 hm with h | h
    · have := congrArg UInt8.toNat h
      rw [nu8 (by omega)] at this
      have e : (47 : UInt8).toNat = 47 := rfl
      omega
    · exact dgs_no n k h
theorem hexS_no (l : Txt) : 47 ∉ hexS l := by
  have hd : ∀ m : Fin 16, hexd m.val ≠ 47 := by decide
  induction l with
  | nil => simp [hexS]
  | cons b l ih =>
    rw [hexS_cons]
    have hb := b.toNat_lt
    intro hm
    rcases List.mem_cons.1 hm with h | hm
    · exact hd ⟨b.toNat / 16, by omega⟩ h.symm
    rcases List.mem_cons.1 hm with h | hm
    · exact hd ⟨b.toNat % 16, by omega⟩ h.symm
    · exact ih hm
theorem digR6 {n : Int} (h : (digR n 6).2 = true) : ∃ m : Nat, n = m ∧ m < 1000000 ∧ (digR n 6).1 = dgs m 6 := by
  unfold digR at h ⊢
  split at h
  · cases h
  · rename_i hc
    rw [if_neg hc]
    obtain ⟨_, p2⟩ := pad_dgs (n := n.toNat) (w := 6) (by omega)
    exact ⟨n.toNat, by omega, by simpa using p2, rfl⟩
theorem jn2_eq {m a b : Txt} (h : jnS m [a, b] ≠ []) : nameS a = true ∧ nameS b = true ∧ jnS m [a, b] = m ++ 47 :: (a ++ 47 :: b) := by
  unfold jnS at h ⊢
  simp only [List.all_cons, List.all_nil, Bool.and_true, slash] at h ⊢
  cases ha : nameS a with
  | false => rw [ha] at h; simp at h
  | true =>
    cases hb : nameS b with
    | false => rw [ha, hb] at h; simp at h
    | true => exact ⟨rfl, rfl, by simp⟩
theorem numb_eq {k : Txt} {n : Int} (h : numb k n ≠ []) : k ≠ [] ∧ ∃ m : Nat, n = m ∧ m < 1000000 ∧ numb k n = k ++ 47 :: dgs m 6 := by
  unfold numb at h ⊢
  have hc : ¬ (k = [] ∨ (digR n 6).2 = false) := fun e => h (by rw [if_pos e])
  rw [if_neg hc]
  have hb : (digR n 6).2 = true := by cases hd : (digR n 6).2 with
    | false => exact absurd (.inr hd) hc
    | true => rfl
  obtain ⟨m, e1, e2, e3⟩ := digR6 hb
  exact ⟨fun e => hc (.inl e), m, e1, e2, by rw [e3]⟩
theorem spl_of {s : Txt} {l : List Txt} (h : splF s = l) : splS s = splA fun i => (l ++ [[], [], [], []]).getD i [] := by unfold splS; rw [h]
/-- a key's parts are those it was made of -/
theorem par_key {p : Pts} (h : keyS p ≠ []) : (splS (keyS p)).kind = p.kind ∧ p.kind ≠ 0 ∧ keyS (splS (keyS p)) = keyS p := by
  have n1 : ∀ c : UInt8, c ≠ 47 → (47 : UInt8) ∉ [c] := fun c hc hm => hc (List.mem_singleton.1 hm).symm
  by_cases k1 : p.kind = 1
  · have e : keyS p = jnS [102] [p.feed] := by unfold keyS; rw [if_pos k1]
    rw [e] at h ⊢
    obtain ⟨f1, f2⟩ := jn1_eq (m := [102]) (f := p.feed) (by simp)
    have nf := f1.1 h
    have hs : splS (jnS [102] [p.feed]) = Pts.mk 1 [] p.feed [] [] 0 := by
      rw [f2 nf, spl_of (splF1 (n1 102 (by decide)) (name_no nf).1)]; rfl
    rw [hs]
    exact ⟨k1.symm, by omega, rfl⟩
  by_cases k2 : p.kind = 2
  · have e : keyS p = numb (jnS [101] [p.feed]) p.num := by unfold keyS; rw [if_neg k1, if_pos k2]
    rw [e] at h ⊢
    obtain ⟨hk, m, em, hm, en⟩ := numb_eq h
    obtain ⟨f1, f2⟩ := jn1_eq (m := [101]) (f := p.feed) (by simp)
    have nf := f1.1 hk
    have hs : splS (numb (jnS [101] [p.feed]) p.num) = Pts.mk 2 [] p.feed [] [] p.num := by
      have e9 : [101] ++ 47 :: p.feed ++ 47 :: dgs m 6 = [101] ++ 47 :: (p.feed ++ 47 :: dgs m 6) := by simp
      rw [en, f2 nf, e9, spl_of (splF2 (n1 101 (by decide)) (name_no nf).1 (dgs_no m 6)), em, ← atoi_dgs hm]; rfl
    rw [hs]
    exact ⟨k2.symm, by omega, rfl⟩
  by_cases k3 : p.kind = 3
  · have e : keyS p = guidS p.feed p.guid := by unfold keyS; rw [if_neg k1, if_neg k2, if_pos k3]
    rw [e] at h ⊢
    have hg : ¬ (jnS [103] [p.feed] = [] ∨ p.guid = [] ∨ 500 < p.guid.length) := fun hh => h (by unfold guidS; rw [if_pos hh])
    have en : guidS p.feed p.guid = jnS [103] [p.feed] ++ 47 :: hexS p.guid := by unfold guidS; rw [if_neg hg]
    obtain ⟨f1, f2⟩ := jn1_eq (m := [103]) (f := p.feed) (by simp)
    have nf := f1.1 fun hh => hg (.inl hh)
    have hs : splS (guidS p.feed p.guid) = Pts.mk 3 [] p.feed [] p.guid 0 := by
      have hu : (unhR (hexS p.guid)).getD [] = p.guid := by rw [unhR_hex]; rfl
      have e9 : [103] ++ 47 :: p.feed ++ 47 :: hexS p.guid = [103] ++ 47 :: (p.feed ++ 47 :: hexS p.guid) := by simp
      rw [en, f2 nf, e9, spl_of (splF2 (n1 103 (by decide)) (name_no nf).1 (hexS_no _))]
      conv => rhs; rw [← hu]
      rfl
    rw [hs]
    exact ⟨k3.symm, by omega, rfl⟩
  by_cases k4 : p.kind = 4
  · have e : keyS p = jnS [115] [p.user, p.feed] := by unfold keyS; rw [if_neg k1, if_neg k2, if_neg k3, if_pos k4]
    rw [e] at h ⊢
    obtain ⟨na, nb, ej⟩ := jn2_eq h
    have hs : splS (jnS [115] [p.user, p.feed]) = Pts.mk 4 p.user p.feed [] [] 0 := by
      rw [ej, spl_of (splF2 (n1 115 (by decide)) (name_no na).1 (name_no nb).1)]; rfl
    rw [hs]
    exact ⟨k4.symm, by omega, rfl⟩
  by_cases k5 : p.kind = 5
  · have e : keyS p = jnS [100] [p.user, p.name] := by unfold keyS; rw [if_neg k1, if_neg k2, if_neg k3, if_neg k4, if_pos k5]
    rw [e] at h ⊢
    obtain ⟨na, nb, ej⟩ := jn2_eq h
    have hs : splS (jnS [100] [p.user, p.name]) = Pts.mk 5 p.user [] p.name [] 0 := by
      rw [ej, spl_of (splF2 (n1 100 (by decide)) (name_no na).1 (name_no nb).1)]; rfl
    rw [hs]
    exact ⟨k5.symm, by omega, rfl⟩
  by_cases k6 : p.kind = 6
  · have e : keyS p = numb (jnS [114] [p.user, p.feed]) p.num := by unfold keyS; rw [if_neg k1, if_neg k2, if_neg k3, if_neg k4, if_neg k5, if_pos k6]
    rw [e] at h ⊢
    obtain ⟨hk, m, em, hm, en⟩ := numb_eq h
    obtain ⟨na, nb, ej⟩ := jn2_eq hk
    have hs : splS (numb (jnS [114] [p.user, p.feed]) p.num) = Pts.mk 6 p.user p.feed [] [] p.num := by
      have e9 : [114] ++ 47 :: (p.user ++ 47 :: p.feed) ++ 47 :: dgs m 6 = [114] ++ 47 :: (p.user ++ 47 :: (p.feed ++ 47 :: dgs m 6)) := by simp
      rw [en, ej, e9, spl_of (splF3 (n1 114 (by decide)) (name_no na).1 (name_no nb).1 (dgs_no m 6)), em, ← atoi_dgs hm]; rfl
    rw [hs]
    exact ⟨k6.symm, by omega, rfl⟩
  by_cases k7 : p.kind = 7
  · have e : keyS p = jnS [109] [p.user, p.feed] := by unfold keyS; rw [if_neg k1, if_neg k2, if_neg k3, if_neg k4, if_neg k5, if_neg k6, if_pos k7]
    rw [e] at h ⊢
    obtain ⟨na, nb, ej⟩ := jn2_eq h
    have hs : splS (jnS [109] [p.user, p.feed]) = Pts.mk 7 p.user p.feed [] [] 0 := by
      rw [ej, spl_of (splF2 (n1 109 (by decide)) (name_no na).1 (name_no nb).1)]; rfl
    rw [hs]
    exact ⟨k7.symm, by omega, rfl⟩
  · exact absurd (by unfold keyS; rw [if_neg k1, if_neg k2, if_neg k3, if_neg k4, if_neg k5, if_neg k6, if_neg k7]) h
theorem par_yes {p : Pts} (h : keyS p ≠ []) : (parS (keyS p)).2 = true ∧ (parS (keyS p)).1.kind = p.kind := by
  obtain ⟨h1, h2, h3⟩ := par_key h
  unfold parS
  rw [if_neg (fun hh => hh.elim (fun e => h2 (h1.symm.trans e)) fun e => e h3)]
  exact ⟨rfl, h1⟩
theorem par_nil : parS [] = (Pts.zero, false) := by decide +kernel
theorem par_no {s : Txt} (h : (parS s).2 = false) : (parS s).1 = Pts.zero := by
  unfold parS at h ⊢
  split at h
  · rename_i hc; rw [if_pos hc]
  · cases h
theorem bl_pre : ∀ {c x y : Txt}, Op.bytesLess (c ++ x) (c ++ y) = Op.bytesLess x y
  | [], _, _ => rfl
  | a :: c, x, y => by
    rw [List.cons_append, List.cons_append, Op.bytesLess]
    have h1 : decide (a < a) = false := decide_eq_false (fun h => by have := UInt8.lt_iff_toNat_lt.1 h; omega)
    rw [h1, Bool.false_or, beq_self_eq_true, Bool.true_and, bl_pre]
theorem numb_less {k : Txt} {m n : Int} (hm : numb k m ≠ []) (hn : numb k n ≠ []) : Op.bytesLess (numb k m) (numb k n) = decide (m < n) ∧ (numb k m).length = (numb k n).length := by
  obtain ⟨_, a, e1, e2, e3⟩ := numb_eq hm
  obtain ⟨_, b, f1, f2, f3⟩ := numb_eq hn
  rw [e3, f3]
  constructor
  · have e4 : k ++ 47 :: dgs a 6 = (k ++ [47]) ++ dgs a 6 := by simp
    have f4 : k ++ 47 :: dgs b 6 = (k ++ [47]) ++ dgs b 6 := by simp
    rw [e4, f4, bl_pre, (dgs_less a b 6).1]
    refine decide_eq_decide.2 ?_
    have : (10 : Nat) ^ 6 = 1000000 := by decide
    rw [this, Nat.mod_eq_of_lt e2, Nat.mod_eq_of_lt f2]
    omega
  · simp only [List.length_append, List.length_cons, dgs_len]
/-- what begins a key -/
def begins (m l : Txt) : Prop := l ≠ [] → m ≠ [] ∧ m.length < l.length ∧ l.take m.length = m
theorem beg_of {m l x : Txt} (hm : m ≠ []) (hx : x ≠ []) (h : l = m ++ x) : begins m l := fun _ => by
  subst h
  refine ⟨hm, ?_, List.take_left⟩
  rw [List.length_append]
  have := List.length_pos_iff.2 hx
  omega
theorem beg_numb {k : Txt} {n : Int} : begins (bgn k) (numb k n) := fun h => by
  obtain ⟨hk, a, _, _, e⟩ := numb_eq h
  refine beg_of (x := dgs a 6) ?_ ?_ ?_ h
  · unfold bgn; rw [if_neg hk]; simp
  · intro e2; have := congrArg List.length e2; rw [dgs_len] at this; simp at this
  · unfold bgn; rw [e, if_neg hk]; simp
theorem beg_jn2 {m a b : Txt} (hm : m ≠ []) : begins (bgn (jnS m [a])) (jnS m [a, b]) := fun h => by
  obtain ⟨na, nb, e⟩ := jn2_eq h
  obtain ⟨f1, f2⟩ := jn1_eq (m := m) (f := a) hm
  have hk := f1.2 na
  refine beg_of (x := b) ?_ (name_no nb).2.1 ?_ h
  · unfold bgn; rw [if_neg hk]; simp
  · unfold bgn; rw [e, if_neg hk, f2 na]; simp
end Go.Ez
