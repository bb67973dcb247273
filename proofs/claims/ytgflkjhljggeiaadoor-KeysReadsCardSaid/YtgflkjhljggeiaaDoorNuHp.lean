/-
  NUMBERS, plainly: bytes in sixteens.
-/
import Derived.Test.YtgflkjhljggeiaaDoorNuQ
import Derived.Laws.Runes
import Derived.Lib.MapLaws
namespace Go.Ez
open Go Go.Lib
set_option linter.unusedSimpArgs false
set_option linter.unusedVariables false
def digs16 : Txt := [48, 49, 50, 51, 52, 53, 54, 55, 56, 57, 97, 98, 99, 100, 101, 102]
def hexd (n : Nat) : UInt8 := digs16.getD n 0
theorem hexd_at {n : Nat} (h : n < 16) : digs16[n]? = some (hexd n) := by
  unfold hexd
  rw [List.getD_eq_getElem?_getD, List.getElem?_eq_getElem (show n < digs16.length from h)]; rfl
def dig16 (c : UInt8) : Option Nat := if 48 ≤ c.toNat ∧ c.toNat ≤ 57 then some (c.toNat - 48) else if 97 ≤ c.toNat ∧ c.toNat ≤ 102 then some (c.toNat - 87) else none
/-- capitals too -/
def digU (c : UInt8) : Option Nat := if 48 ≤ c.toNat ∧ c.toNat ≤ 57 then some (c.toNat - 48) else if 97 ≤ c.toNat ∧ c.toNat ≤ 102 then some (c.toNat - 87) else if 65 ≤ c.toNat ∧ c.toNat ≤ 70 then some (c.toNat - 55) else none
theorem dig16_idx (c : UInt8) : firstIdx ⟨digs16.toArray⟩ c = match dig16 c with | some d => (d : Int) | none => -1 := by
  have : ∀ n : Fin 256, firstIdx ⟨digs16.toArray⟩ (UInt8.ofNat n.val) = match dig16 (UInt8.ofNat n.val) with | some d => (d : Int) | none => -1 := by decide +kernel
  have h := this ⟨c.toNat, c.toNat_lt⟩
  simpa using h
theorem dig16_lt {c : UInt8} {d : Nat} (h : dig16 c = some d) : d < 16 ∧ hexd d = c ∧ digU c = some d := by
  have : ∀ n : Fin 256, ∀ d : Fin 256, dig16 (UInt8.ofNat n.val) = some d.val → d.val < 16 ∧ hexd d.val = UInt8.ofNat n.val ∧ digU (UInt8.ofNat n.val) = some d.val := by decide +kernel
  have hd : d < 256 := by
    unfold dig16 at h
    have := c.toNat_lt
    split at h
    · cases h; omega
    · split at h
      · cases h; omega
      · cases h
  have h2 := this ⟨c.toNat, c.toNat_lt⟩ ⟨d, hd⟩
  simp only [UInt8.ofNat_toNat] at h2
  exact h2 h
theorem digU_lt {c : UInt8} {d : Nat} (h : digU c = some d) : d < 16 := by
  unfold digU at h
  split at h
  · cases h; omega
  · split at h
    · cases h; omega
    · split at h
      · cases h; omega
      · cases h
theorem hexd_dig {n : Nat} (h : n < 16) : dig16 (hexd n) = some n := (by decide : ∀ m : Fin 16, dig16 (hexd m.val) = some m.val) ⟨n, h⟩
def hexB (b : UInt8) : Txt := [hexd (b.toNat / 16), hexd (b.toNat % 16)]
def hexS (l : Txt) : Txt := l.flatMap hexB
theorem hexS_cons (b : UInt8) (l : Txt) : hexS (b :: l) = hexd (b.toNat / 16) :: hexd (b.toNat % 16) :: hexS l := rfl
theorem hexS_snoc (l : Txt) (b : UInt8) : hexS (l ++ [b]) = hexS l ++ hexB b := by simp [hexS]
theorem hexS_len : ∀ l : Txt, (hexS l).length = 2 * l.length
  | [] => rfl
  | b :: l => by rw [hexS_cons, List.length_cons, List.length_cons, hexS_len l, List.length_cons]; omega
/-- sixteens read by a reader of digits -/
def unh (f : UInt8 → Option Nat) : Txt → Option Txt
  | [] => some []
  | [_] => some []
  | a :: b :: t => match f a with
    | none => none
    | some x => match f b with
      | none => none
      | some y => (unh f t).map (UInt8.ofNat (x * 16 + y) :: ·)
def unhR (s : Txt) : Option Txt := if s.length % 2 = 0 then unh dig16 s else none
def unhD (s : Txt) : Option Txt := match unh digU s with
  | none => none
  | some o => if hexS o = s then some o else none
theorem unh_hex : ∀ l : Txt, unh dig16 (hexS l) = some l
  | [] => rfl
  | b :: l => by
    have hb := b.toNat_lt
    rw [hexS_cons, unh, hexd_dig (by omega), hexd_dig (by omega)]
    simp only
    rw [unh_hex l]
    have : UInt8.ofNat (b.toNat / 16 * 16 + b.toNat % 16) = b := by
      rw [show b.toNat / 16 * 16 + b.toNat % 16 = b.toNat by omega]; simp
    rw [this]; rfl
theorem unhR_hex (l : Txt) : unhR (hexS l) = some l := by unfold unhR; rw [if_pos (by rw [hexS_len]; omega), unh_hex]
theorem unh_back : ∀ {s o : Txt}, s.length % 2 = 0 → unh dig16 s = some o → hexS o = s ∧ unh digU s = some o
  | [], o, _, h => by cases h; exact ⟨rfl, rfl⟩
  | [_], o, hl, _ => by simp at hl
  | a :: b :: t, o, hl, h => by
    unfold unh at h ⊢
    cases ha : dig16 a with
    | none => rw [ha] at h; cases h
    | some x =>
      cases hb : dig16 b with
      | none => rw [ha, hb] at h; cases h
      | some y =>
        rw [ha, hb] at h
        simp only at h
        cases ht : unh dig16 t with
        | none => rw [ht] at h; cases h
        | some o' =>
          rw [ht] at h
          cases h
          obtain ⟨i1, i2⟩ := unh_back (s := t) (by simp at hl; omega) ht
          obtain ⟨x1, x2, x3⟩ := dig16_lt ha
          obtain ⟨y1, y2, y3⟩ := dig16_lt hb
          rw [x3, y3]
          simp only
          rw [i2]
          refine ⟨?_, rfl⟩
          have e : (UInt8.ofNat (x * 16 + y)).toNat = x * 16 + y := nu8 (by omega)
          rw [hexS_cons, e, show (x * 16 + y) / 16 = x by omega, show (x * 16 + y) % 16 = y by omega, x2, y2, i1]
theorem unhD_R (s : Txt) : unhD s = unhR s := by
  have key : ∀ o, unhR s = some o → hexS o = s ∧ unh digU s = some o := fun o h => by
    unfold unhR at h
    split at h
    · rename_i hl; exact unh_back hl h
    · cases h
  unfold unhD
  cases hd : unh digU s with
  | none =>
    simp only
    cases hr : unhR s with
    | none => rfl
    | some o => rw [(key o hr).2] at hd; cases hd
  | some o =>
    simp only
    split
    · rename_i he; rw [← he, unhR_hex]
    · rename_i he
      cases hr : unhR s with
      | none => rfl
      | some o2 =>
        obtain ⟨k1, k2⟩ := key o2 hr
        rw [k2] at hd
        cases hd
        exact absurd k1 he
theorem unh_step (f : UInt8 → Option Nat) {s : Txt} {i : Nat} {a b : UInt8} (ha : s[i]? = some a) (hb : s[i + 1]? = some b) : s.drop i = a :: b :: s.drop (i + 2) := by
  have h1 := (List.getElem?_eq_some_iff.1 ha).1
  have h2 := (List.getElem?_eq_some_iff.1 hb).1
  rw [List.drop_eq_getElem_cons h1, List.drop_eq_getElem_cons h2]
  rw [List.getElem?_eq_getElem h1] at ha
  rw [List.getElem?_eq_getElem h2] at hb
  cases ha; cases hb; rfl
theorem unh_len (f : UInt8 → Option Nat) : ∀ {s o : Txt}, unh f s = some o → 2 * o.length ≤ s.length
  | [], o, h => by cases h; simp
  | [_], o, h => by cases h; simp
  | a :: b :: t, o, h => by
    unfold unh at h
    split at h
    · cases h
    · split at h
      · cases h
      · cases ht : unh f t with
        | none => rw [ht] at h; cases h
        | some o' =>
          rw [ht] at h
          cases h
          have := unh_len f ht
          simp only [List.length_cons]; omega
end Go.Ez
