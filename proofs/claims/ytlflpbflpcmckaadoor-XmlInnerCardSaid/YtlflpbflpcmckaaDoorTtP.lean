/-
  TEXTS, plainly: signs, and strings of JSON. No program in sight.
-/
import Derived.Test.YtlflpbflpcmckaaDoorOmP
import Derived.Lib.MapLaws
import Derived.Lib.ValidLaws
import Derived.Lib.ValidAsc
import Derived.Lib.RuneCountTail
namespace Go.Ez
open Go Go.Lib
set_option linter.unusedSimpArgs false
set_option linter.unusedVariables false
/-- a sign's bytes -/
def utf (n : Nat) : Txt := encodeRune (n : Int)
theorem decode_drop (s : Txt) (i : Nat) : Utf8.decode ⟨s.toArray⟩ i = decodeL (s.drop i) := by
  have h := tail_decode ⟨s.toArray⟩ i 0
  rw [Nat.add_zero] at h
  rw [← h]
  unfold decodeL
  congr 1
  have e := ext_list ⟨s.toArray⟩ i
  cases hx : (⟨s.toArray⟩ : ByteArray).extract i (⟨s.toArray⟩ : ByteArray).size with
  | mk d =>
    rw [hx] at e
    simp only at e
    rw [← e]
/-- is what a text begins with a sign? -/
def badL (l : Txt) : Prop := (decodeL l).1 = 65533 ∧ (decodeL l).2 = 1
instance {l : Txt} : Decidable (badL l) := inferInstanceAs (Decidable (_ ∧ _))
theorem dec_ascii {c : UInt8} {r : Txt} (h : c.toNat < 128) : decodeL (c :: r) = (c.toNat, 1) := by
  rw [decodeL_N]
  unfold decodeN
  simp [h]
theorem dec_facts (l : Txt) (hne : l ≠ []) : (¬ badL l → (decodeL l).2 ≤ l.length) ∧ 1 ≤ (decodeL l).2 ∧ (decodeL l).1 ≤ 1114111 ∧
    (128 ≤ (l.getD 0 0).toNat → 128 ≤ (decodeL l).1 ∧ (¬ badL l → 2 ≤ (decodeL l).2 ∧ (decodeL l).2 ≤ 4 ∧ ∀ j, j < (decodeL l).2 → 128 ≤ (l.getD j 0).toNat)) := by
  have hl : 0 < l.length := List.length_pos_iff.2 hne
  have h0 := (l.getD 0 0).toNat_lt; have h1 := (l.getD 1 0).toNat_lt; have h2 := (l.getD 2 0).toNat_lt; have h3 := (l.getD 3 0).toNat_lt
  have hj : ∀ j, j < 4 → (j = 0 ∨ j = 1 ∨ j = 2 ∨ j = 3) := fun j h => by omega
  unfold badL
  rw [decodeL_N]
  generalize l.length = n at *
  generalize e0 : (l.getD 0 0).toNat = b0 at *
  generalize e1 : (l.getD 1 0).toNat = b1 at *
  generalize e2 : (l.getD 2 0).toNat = b2 at *
  generalize e3 : (l.getD 3 0).toNat = b3 at *
  unfold decodeN
  by_cases c1 : b0 < 128
  · simp only [c1, if_true]
    refine ⟨fun _ => by omega, by omega, by omega, fun h => by omega⟩
  · simp only [c1, if_false]
    by_cases c2 : b0 / 32 = 6 ∧ (1 < n ∧ b1 / 64 = 2)
    · simp only [c2, and_self, if_true]
      split
      · refine ⟨fun _ => by omega, by simp, by simp only; omega, fun _ => ⟨by simp only; omega, fun _ => ⟨by simp, by simp, fun j hj2 => ?_⟩⟩⟩
        simp only at hj2
        rcases hj j (by omega) with rfl | rfl | rfl | rfl <;> omega
      · refine ⟨fun hb => absurd ⟨rfl, rfl⟩ hb, by simp, by simp, fun _ => ⟨by simp, fun hb => absurd ⟨rfl, rfl⟩ hb⟩⟩
    · rw [if_neg c2]
      by_cases c3 : b0 / 16 = 14 ∧ (1 < n ∧ b1 / 64 = 2) ∧ (2 < n ∧ b2 / 64 = 2)
      · rw [if_pos c3]
        split
        · refine ⟨fun _ => by simp only; omega, by simp, by simp only; omega, fun _ => ⟨by simp only; omega, fun _ => ⟨by simp, by simp, fun j hj2 => ?_⟩⟩⟩
          simp only at hj2
          rcases hj j (by omega) with rfl | rfl | rfl | rfl <;> omega
        · refine ⟨fun hb => absurd ⟨rfl, rfl⟩ hb, by simp, by simp, fun _ => ⟨by simp, fun hb => absurd ⟨rfl, rfl⟩ hb⟩⟩
      · rw [if_neg c3]
        by_cases c4 : b0 / 8 = 30 ∧ (1 < n ∧ b1 / 64 = 2) ∧ (2 < n ∧ b2 / 64 = 2) ∧ (3 < n ∧ b3 / 64 = 2)
        · rw [if_pos c4]
          split
          · refine ⟨fun _ => by simp only; omega, by simp, by simp only; omega, fun _ => ⟨by simp only; omega, fun _ => ⟨by simp, by simp, fun j hj2 => ?_⟩⟩⟩
            simp only at hj2
            rcases hj j (by omega) with rfl | rfl | rfl | rfl <;> omega
          · refine ⟨fun hb => absurd ⟨rfl, rfl⟩ hb, by simp, by simp, fun _ => ⟨by simp, fun hb => absurd ⟨rfl, rfl⟩ hb⟩⟩
        · rw [if_neg c4]
          refine ⟨fun hb => absurd ⟨rfl, rfl⟩ hb, by simp, by simp, fun _ => ⟨by simp, fun hb => absurd ⟨rfl, rfl⟩ hb⟩⟩
/-- a sign that stands at the front: below 128, or of some bytes from 128 on -/
theorem sign_cases {l : Txt} (hne : l ≠ []) (hg : ¬ badL l) :
    (∃ c r, l = c :: r ∧ c.toNat < 128 ∧ decodeL l = (c.toNat, 1)) ∨
    (128 ≤ (decodeL l).1 ∧ (decodeL l).1 ≤ 1114111 ∧ 2 ≤ (decodeL l).2 ∧ (decodeL l).2 ≤ 4 ∧ (decodeL l).2 ≤ l.length ∧ (∀ b ∈ l.take (decodeL l).2, 128 ≤ b.toNat) ∧ utf (decodeL l).1 = l.take (decodeL l).2) := by
  obtain ⟨f1, f2, f3, f4⟩ := dec_facts l hne
  cases l with
  | nil => exact absurd rfl hne
  | cons c r =>
    by_cases hc : c.toNat < 128
    · exact .inl ⟨c, r, rfl, hc, dec_ascii hc⟩
    · have hc' : 128 ≤ ((c :: r).getD 0 0).toNat := by simpa using hc
      obtain ⟨g1, g2⟩ := f4 hc'
      obtain ⟨g3, g4, g5⟩ := g2 hg
      refine .inr ⟨g1, f3, g3, g4, f1 hg, fun b hb => ?_, encode_decode _ hne hg⟩
      obtain ⟨j, hj, e⟩ := List.getElem_of_mem hb
      have hjw : j < (decodeL (c :: r)).2 := by rw [List.length_take] at hj; omega
      have := g5 j hjw
      have hjl : j < (c :: r).length := by rw [List.length_take] at hj; omega
      rw [List.getElem_take] at e
      rw [List.getD_eq_getElem?_getD, List.getElem?_eq_getElem hjl] at this
      simp only [Option.getD_some] at this
      rw [← e]; exact this
theorem valid_next {l : Txt} (hne : l ≠ []) (hv : validD l = true) : ¬ badL l ∧ validD (l.drop (decodeL l).2) = true := by
  rw [validD_step l hne] at hv
  split at hv
  · cases hv
  · rename_i h; exact ⟨h, hv⟩

/-! ### quoted -/
/-- the letter that stands for a sign behind a backslash; 0: none does -/
def letB (c : Nat) : Nat := if c = 34 then 34 else if c = 92 then 92 else if c = 8 then 98 else if c = 12 then 102 else if c = 10 then 110 else if c = 13 then 114 else if c = 9 then 116 else 0
def digs16 : Txt := [48, 49, 50, 51, 52, 53, 54, 55, 56, 57, 97, 98, 99, 100, 101, 102]
def hexd (n : Nat) : UInt8 := digs16.getD n 0
/-- a byte, quoted -/
def qB (b : UInt8) : Txt := if letB b.toNat ≠ 0 then [92, UInt8.ofNat (letB b.toNat)] else if b.toNat < 32 then [92, 117, 48, 48] ++ [hexd (b.toNat / 16)] ++ [hexd (b.toNat % 16)] else [b]
def qBs (s : Txt) : Txt := s.flatMap qB
def quoteB (s : Txt) : Txt := 34 :: (qBs s ++ [34])
theorem letB_high {c : Nat} (h : 128 ≤ c) : letB c = 0 := by unfold letB; (repeat (first | omega | split))
theorem letB_rng (c : Nat) : letB c < 128 := by unfold letB; (repeat (first | omega | split))
theorem qB_high {b : UInt8} (h : 128 ≤ b.toNat) : qB b = [b] := by unfold qB; rw [letB_high h, if_neg (by simp), if_neg (by omega)]
theorem qBs_high {l : Txt} (h : ∀ b ∈ l, 128 ≤ b.toNat) : qBs l = l := by
  induction l with
  | nil => rfl
  | cons b l ih =>
    unfold qBs at ih ⊢
    rw [List.flatMap_cons, qB_high (h b (by simp)), ih fun c hc => h c (by simp [hc])]
    rfl
theorem qBs_append (a b : Txt) : qBs (a ++ b) = qBs a ++ qBs b := by unfold qBs; rw [List.flatMap_append]
theorem qBs_one (b : UInt8) : qBs [b] = qB b := by simp [qBs]
theorem qBs_cons (b : UInt8) (l : Txt) : qBs (b :: l) = qB b ++ qBs l := by simp [qBs]
theorem qB_len (b : UInt8) : 1 ≤ (qB b).length ∧ (qB b).length ≤ 6 := by
  unfold qB
  split
  · simp
  · split <;> simp
theorem qBs_len (s : Txt) : (qBs s).length ≤ 6 * s.length := by
  induction s with
  | nil => simp [qBs]
  | cons b s ih => rw [qBs_cons, List.length_append, List.length_cons]; have := (qB_len b).2; omega
def quoteS (s : Txt) : Txt × Int := if validD s then (quoteB s, 0) else ([], 4)
def countS (s : Txt) : Int := if validD s then (runeCountL s : Int) else -1
end Go.Ez
