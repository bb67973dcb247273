/-
  TEXTS, plainly: strings of JSON read, as the reader goes.
-/
import Derived.Test.YtififikdlcohpaaDoorTtP
import Derived.Laws.Runes
namespace Go.Ez
open Go Go.Lib
set_option linter.unusedSimpArgs false
set_option linter.unusedVariables false
/-- a reader's place and error -/
abbrev Pt := Nat × Int
def failT (e : Int) (x : Pt) : Pt := if x.2 = 0 then (x.1, e) else x
def nextT (s : Txt) (x : Pt) : UInt8 × Pt := if x.2 ≠ 0 then (0, x) else match s[x.1]? with
  | none => (0, (x.1, 2))
  | some c => (c, (x.1 + 1, 0))
def wantsT (s : Txt) (c : UInt8) (x : Pt) : Pt := if (nextT s x).2.2 = 0 ∧ (nextT s x).1 ≠ c then failT 4 (nextT s x).2 else (nextT s x).2
def lowC (c : UInt8) : UInt8 := if 65 ≤ c.toNat ∧ c.toNat ≤ 70 then UInt8.ofNat (c.toNat + 32) else c
/-- a digit of 16 -/
def dig16 (c : UInt8) : Option Nat := if 48 ≤ c.toNat ∧ c.toNat ≤ 57 then some (c.toNat - 48) else if 97 ≤ c.toNat ∧ c.toNat ≤ 102 then some (c.toNat - 87) else none
def fourT (s : Txt) : Nat → Nat → Pt → Nat × Pt
  | 0, n, x => (n, x)
  | k + 1, n, x => match dig16 (lowC (nextT s x).1) with
    | none => (0, failT 4 (nextT s x).2)
    | some d => fourT s k (n * 16 + d) (nextT s x).2
def unitT (s : Txt) (x : Pt) : Nat × Pt :=
  let c := fourT s 4 0 x
  if c.2.2 ≠ 0 ∨ c.1 < 55296 ∨ 57343 < c.1 then c
  else if 56320 ≤ c.1 then (0, failT 4 c.2)
  else
    let d := fourT s 4 0 (wantsT s 117 (wantsT s 92 c.2))
    (65536 + (c.1 - 55296) * 1024 + d.1 - 56320, if d.1 < 56320 ∨ 57343 < d.1 then failT 4 d.2 else d.2)
/-- the sign that a letter stands for -/
def unletB (c : Nat) : Option Nat := if c = 34 then some 34 else if c = 92 then some 92 else if c = 98 then some 8 else if c = 102 then some 12 else if c = 110 then some 10 else if c = 114 then some 13 else if c = 116 then some 9 else none
def escT (s : Txt) (x : Pt) : Nat × Pt :=
  let c := nextT s x
  if c.2.2 ≠ 0 then (0, c.2) else if c.1 = 117 then unitT s c.2 else if c.1 = 47 then (47, c.2) else match unletB c.1.toNat with
  | some n => (n, c.2)
  | none => (0, failT 4 c.2)
def signT (s : Txt) (x : Pt) : Nat × Pt :=
  if s.length ≤ x.1 then (0, failT 2 x)
  else if (decodeL (s.drop x.1)).1 < 32 ∨ badL (s.drop x.1) then (0, failT 4 x)
  else ((decodeL (s.drop x.1)).1, (x.1 + (decodeL (s.drop x.1)).2, x.2))
def unqGo (s : Txt) : Nat → Pt → Txt → Txt × Nat × Int
  | 0, x, _ => ([], 0, x.2)
  | f + 1, x, out =>
    if x.2 ≠ 0 then ([], 0, x.2)
    else if (signT s x).2.2 ≠ 0 then unqGo s f (signT s x).2 out
    else if (signT s x).1 = 34 then (out, (signT s x).2.1, 0)
    else if (signT s x).1 = 92 then unqGo s f (escT s (signT s x).2).2 (out ++ utf (escT s (signT s x).2).1)
    else unqGo s f (signT s x).2 (out ++ utf (signT s x).1)
def unqS (s : Txt) (at' : Int) : Txt × Nat × Int := if at' < 0 ∨ (s.length : Int) < at' then ([], 0, 1) else unqGo s (2 * s.length + 4) (wantsT s 34 (at'.toNat, 0)) []

theorem dig16_idx (c : UInt8) : firstIdx ⟨digs16.toArray⟩ c = match dig16 c with | some d => (d : Int) | none => -1 := by
  have : ∀ n : Fin 256, firstIdx ⟨digs16.toArray⟩ (UInt8.ofNat n.val) = match dig16 (UInt8.ofNat n.val) with | some d => (d : Int) | none => -1 := by decide +kernel
  have h := this ⟨c.toNat, c.toNat_lt⟩
  simpa using h
theorem dig16_lt {c : UInt8} {d : Nat} (h : dig16 c = some d) : d < 16 := by
  unfold dig16 at h
  split at h
  · cases h; omega
  · split at h
    · cases h; omega
    · cases h
theorem nextT_le {s : Txt} {x : Pt} (h : x.1 ≤ s.length) : (nextT s x).2.1 ≤ s.length ∧ x.1 ≤ (nextT s x).2.1 := by
  unfold nextT
  split
  · exact ⟨h, Nat.le_refl _⟩
  · split
    · exact ⟨h, Nat.le_refl _⟩
    · rename_i c hc
      have := (List.getElem?_eq_some_iff.1 hc).1
      exact ⟨this, by simp⟩
theorem failT_at (e : Int) (x : Pt) : (failT e x).1 = x.1 := by unfold failT; split <;> rfl
theorem wantsT_le {s : Txt} {c : UInt8} {x : Pt} (h : x.1 ≤ s.length) : (wantsT s c x).1 ≤ s.length ∧ x.1 ≤ (wantsT s c x).1 := by
  unfold wantsT
  split
  · rw [failT_at]; exact nextT_le h
  · exact nextT_le h
theorem fourT_le {s : Txt} : ∀ {k n : Nat} {x : Pt}, x.1 ≤ s.length → (fourT s k n x).2.1 ≤ s.length ∧ x.1 ≤ (fourT s k n x).2.1
  | 0, _, _, h => ⟨h, Nat.le_refl _⟩
  | k + 1, n, x, h => by
    have h1 := nextT_le (s := s) (x := x) h
    unfold fourT
    split
    · rw [failT_at]; exact h1
    · rename_i d hd
      have h2 := fourT_le (s := s) (k := k) (n := n * 16 + d) (x := (nextT s x).2) h1.1
      exact ⟨h2.1, Nat.le_trans h1.2 h2.2⟩
theorem fourT_lt {s : Txt} : ∀ {k n : Nat} {x : Pt}, (fourT s k n x).1 < (n + 1) * 16 ^ k
  | 0, n, x => by simp [fourT]
  | k + 1, n, x => by
    unfold fourT
    split
    · exact Nat.mul_pos (by omega) (Nat.pow_pos (by decide))
    · rename_i d hd
      have := dig16_lt hd
      have h2 := fourT_lt (s := s) (k := k) (n := n * 16 + d) (x := (nextT s x).2)
      refine Nat.lt_of_lt_of_le h2 ?_
      rw [Nat.pow_succ, ← Nat.mul_assoc, Nat.mul_right_comm]
      exact Nat.mul_le_mul_right _ (by omega)
theorem unitT_le {s : Txt} {x : Pt} (h : x.1 ≤ s.length) : (unitT s x).2.1 ≤ s.length ∧ x.1 ≤ (unitT s x).2.1 ∧ (unitT s x).1 ≤ 2000000 := by
  have h1 := fourT_le (s := s) (k := 4) (n := 0) (x := x) h
  have l1 := fourT_lt (s := s) (k := 4) (n := 0) (x := x)
  unfold unitT
  simp only []
  split
  · exact ⟨h1.1, h1.2, by omega⟩
  · split
    · rw [failT_at]; exact ⟨h1.1, h1.2, by omega⟩
    · have h2 := wantsT_le (s := s) (c := 92) (x := (fourT s 4 0 x).2) h1.1
      have h3 := wantsT_le (s := s) (c := 117) (x := wantsT s 92 (fourT s 4 0 x).2) h2.1
      have h4 := fourT_le (s := s) (k := 4) (n := 0) (x := wantsT s 117 (wantsT s 92 (fourT s 4 0 x).2)) h3.1
      have l4 := fourT_lt (s := s) (k := 4) (n := 0) (x := wantsT s 117 (wantsT s 92 (fourT s 4 0 x).2))
      split
      · rw [failT_at]; exact ⟨h4.1, by omega, by omega⟩
      · refine ⟨h4.1, Nat.le_trans h1.2 (Nat.le_trans h2.2 (Nat.le_trans h3.2 h4.2)), ?_⟩
        simp only
        omega
theorem unletB_lt {c n : Nat} (h : unletB c = some n) : n < 128 := by
  unfold unletB at h
  (repeat (first | (cases h; done) | (cases h; omega) | split at h))
theorem escT_le {s : Txt} {x : Pt} (h : x.1 ≤ s.length) : (escT s x).2.1 ≤ s.length ∧ x.1 ≤ (escT s x).2.1 ∧ (escT s x).1 ≤ 2000000 := by
  have h1 := nextT_le (s := s) (x := x) h
  unfold escT
  simp only []
  split
  · exact ⟨h1.1, h1.2, by simp⟩
  · split
    · have := unitT_le (s := s) (x := (nextT s x).2) h1.1
      exact ⟨this.1, by omega, this.2.2⟩
    · split
      · exact ⟨h1.1, h1.2, by simp⟩
      · split
        · rename_i n hn
          have := unletB_lt hn
          exact ⟨h1.1, h1.2, by simp only; omega⟩
        · rw [failT_at]; exact ⟨h1.1, h1.2, by simp⟩
theorem drop_ne {s : Txt} {i : Nat} (h : i < s.length) : s.drop i ≠ [] := by intro e; have := congrArg List.length e; rw [List.length_drop] at this; simp at this; omega
theorem signT_le {s : Txt} {x : Pt} (h : x.1 ≤ s.length) : (signT s x).2.1 ≤ s.length ∧ x.1 ≤ (signT s x).2.1 ∧ (signT s x).1 ≤ 1114111 ∧ ((signT s x).2.2 = 0 → x.2 = 0 ∧ x.1 < (signT s x).2.1) := by
  unfold signT
  split
  · rename_i h1
    rw [failT_at]
    refine ⟨h, Nat.le_refl _, by simp, fun he => ?_⟩
    unfold failT at he
    split at he
    · cases he
    · rename_i h2; exact absurd he h2
  · rename_i h1
    obtain ⟨f1, f2, f3, f4⟩ := dec_facts (s.drop x.1) (drop_ne (by omega))
    split
    · rw [failT_at]
      refine ⟨h, Nat.le_refl _, by simp, fun he => ?_⟩
      unfold failT at he
      split at he
      · cases he
      · rename_i h2; exact absurd he h2
    · rename_i h2
      have := f1 fun hb => h2 (.inr hb)
      rw [List.length_drop] at this
      refine ⟨by simp only; omega, by simp, f3, fun he => ⟨he, by simp only; omega⟩⟩
end Go.Ez
