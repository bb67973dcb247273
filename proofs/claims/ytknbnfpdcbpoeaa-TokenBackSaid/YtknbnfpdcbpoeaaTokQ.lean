/-
  TOKENS, plainly: no token's text begins another's; a sign turned: there is no token. No program in sight.
-/
import Derived.Test.YtknbnfpdcbpoeaaTokE
import Derived.Test.YtknbnfpdcbpoeaaFrmQ
namespace Go.Ez
open Go
set_option linter.unusedSimpArgs false
set_option linter.unusedVariables false

theorem dig_inj {a b : Nat} (ha : a < 16) (hb : b < 16) (h : dig a = dig b) : a = b := by
  have h1 := undig_dig a ha
  have h2 := undig_dig b hb
  rw [h, h2] at h1
  exact_mod_cast h1.symm
theorem byte_of_digs {b c : UInt8} (h1 : dig (b.toNat / 16) = dig (c.toNat / 16)) (h2 : dig (b.toNat % 16) = dig (c.toNat % 16)) : b = c := by
  have hb := b.toNat_lt
  have hc := c.toNat_lt
  have e1 := dig_inj (by omega) (by omega) h1
  have e2 := dig_inj (by omega) (by omega) h2
  exact UInt8.toNat_inj.1 (by omega)
theorem hexL_cons (b : UInt8) (l : List UInt8) : hexL (b :: l) = dig (b.toNat / 16) :: dig (b.toNat % 16) :: hexL l := rfl
theorem hexL_front : ∀ {m m' r : List UInt8}, hexL m' = hexL m ++ r → ∃ r', m' = m ++ r'
  | [], m', _, _ => ⟨m', rfl⟩
  | b :: m, [], r, h => by simp [hexL] at h
  | b :: m, c :: m', r, h => by
    rw [hexL_cons, hexL_cons, List.cons_append, List.cons_append, List.cons.injEq, List.cons.injEq] at h
    obtain ⟨r', hr⟩ := hexL_front h.2.2
    exact ⟨r', by rw [hr, byte_of_digs h.1 h.2.1]; rfl⟩
theorem hexL_set : ∀ {m m' : List UInt8} {k : Nat} {d : UInt8}, hexL m' = (hexL m).set k d → ∃ b, m' = m.set (k / 2) b
  | [], m', k, d, h => by
    cases m' with
    | nil => exact ⟨0, rfl⟩
    | cons c m' => simp [hexL] at h
  | b :: m, [], k, d, h => by
    have := congrArg List.length h
    rw [List.length_set, hexL_length, hexL_length] at this
    simp at this
  | b :: m, c :: m', 0, d, h => by
    rw [hexL_cons, hexL_cons, List.set_cons_zero, List.cons.injEq, List.cons.injEq] at h
    exact ⟨c, by rw [hexL_inj h.2.2]; rfl⟩
  | b :: m, c :: m', 1, d, h => by
    rw [hexL_cons, hexL_cons, List.set_cons_succ, List.set_cons_zero, List.cons.injEq, List.cons.injEq] at h
    exact ⟨c, by rw [hexL_inj h.2.2]; rfl⟩
  | b :: m, c :: m', k + 2, d, h => by
    rw [hexL_cons, hexL_cons, List.set_cons_succ, List.set_cons_succ, List.cons.injEq, List.cons.injEq] at h
    obtain ⟨x, hx⟩ := hexL_set h.2.2
    refine ⟨x, ?_⟩
    have : (k + 2) / 2 = k / 2 + 1 := by omega
    rw [this, List.set_cons_succ, ← hx, byte_of_digs h.1 h.2.1]

section
variable {u k u' k' : List UInt8} {f t f' t' : Int}
/-- no token's text begins another's -/
theorem tokS_front {r : List UInt8} (h : mayT u f t k) (h' : mayT u' f' t' k') (e : tokS u' f'.toNat t'.toNat k' = tokS u f.toNat t.toNat k ++ r) : r = [] := by
  have m := mayT_nat h
  have m' := mayT_nat h'
  obtain ⟨r', hr⟩ := hexL_front e
  rw [List.append_assoc] at hr
  obtain ⟨e1, e2, e3, e4, e5⟩ := tokB_inj (by omega) (by omega) (by omega) (by omega) (by omega) (by omega) (by omega) (by omega) hr
  subst e1
  subst e4
  rw [e2, e3] at e
  have := congrArg List.length e
  rw [List.length_append] at this
  exact List.eq_nil_of_length_eq_zero (by omega)
theorem be4_inj {a b : Nat} (ha : a < 4294967296) (hb : b < 4294967296) (h : be a 4 = be b 4) : a = b := by
  have := congrArg getB h
  rw [be_mod, be_mod] at this
  omega
/-- a sign turned: there is no token -/
theorem tokS_turned {i : Nat} {d : UInt8} (h : mayT u f t k) (h' : mayT u' f' t' k') (e : tokS u' f'.toNat t'.toNat k' = (tokS u f.toNat t.toNat k).set i d) :
    tokS u' f'.toNat t'.toNat k' = tokS u f.toNat t.toNat k := by
  obtain ⟨b, hb⟩ := hexL_set e
  unfold tokS
  generalize tokB u f.toNat t.toNat k = X at *
  generalize tokB u' f'.toNat t'.toNat k' = X' at *
  have hl : X'.length = X.length := by
    have := congrArg List.length hb
    rw [List.length_set, List.length_append, List.length_append, be_length, be_length] at this
    omega
  suffices X' = X by rw [this]
  by_cases hi : i / 2 < X.length
  · rw [List.set_append_left _ _ hi] at hb
    obtain ⟨e1, e2⟩ := List.append_inj hb (by rw [List.length_set]; exact hl)
    have e3 := be4_inj (crc_lt _) (crc_lt _) e2
    rw [e1, set_split hi] at e3
    have e4 : X = X.take (i / 2) ++ X[i / 2] :: X.drop (i / 2 + 1) := split_at hi
    have e5 := crc_one (e3.trans (congrArg crc e4))
    rw [e1, set_split hi, e5]
    exact e4.symm
  · rw [List.set_append_right _ _ (by omega)] at hb
    exact (List.append_inj hb hl).1
end
end Go.Ez
