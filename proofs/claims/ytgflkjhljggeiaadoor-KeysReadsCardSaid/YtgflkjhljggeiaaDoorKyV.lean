/-
  KEYS, plainly: the document's parts of a key, and the program's: the same.
-/
import Derived.Test.YtgflkjhljggeiaaDoorKyQ
namespace Go.Ez
open Go Go.Lib
set_option linter.unusedSimpArgs false
set_option linter.unusedVariables false
def isDg (c : UInt8) : Bool := decide (48 ≤ c.toNat ∧ c.toNat ≤ 57)
def sumD : Txt → Int → Int
  | [], n => n
  | c :: l, n => sumD l (10 * n + ((c.toNat - 48 : Nat) : Int))
/-- the number of six digits; -1: they are none -/
def numD (s : Txt) : Int := if s.length = 6 ∧ s.all isDg = true then sumD s 0 else -1
/-- the document's parts -/
def docX (L : List Txt) : Pts :=
  match L with
  | [a, b] => if a = [102] then Pts.mk 1 [] b [] [] 0 else Pts.zero
  | [a, b, c] => if a = [101] then Pts.mk 2 [] b [] [] (numD c) else if a = [103] then Pts.mk 3 [] b [] ((unhR c).getD []) 0
      else if a = [115] then Pts.mk 4 b c [] [] 0 else if a = [100] then Pts.mk 5 b [] c [] 0 else if a = [109] then Pts.mk 7 b c [] [] 0 else Pts.zero
  | [a, b, c, d] => if a = [114] then Pts.mk 6 b c [] [] (numD d) else Pts.zero
  | _ => Pts.zero
def docS (s : Txt) : Pts × Bool := if s = [] ∨ keyS (docX (splF s)) ≠ s then (Pts.zero, false) else (docX (splF s), true)
theorem dgc (n : Nat) : isDg (UInt8.ofNat (48 + n % 10)) = true ∧ (UInt8.ofNat (48 + n % 10)).toNat - 48 = n % 10 := by
  have : (UInt8.ofNat (48 + n % 10)).toNat = 48 + n % 10 := by rw [UInt8.toNat_ofNat']; omega
  unfold isDg
  rw [this, decide_eq_true_eq]
  omega
theorem dgs_all (n : Nat) : ∀ k, (dgs n k).all isDg = true
  | 0 => rfl
  | k + 1 => by unfold dgs; rw [List.all_cons, (dgc _).1, dgs_all n k]; rfl
theorem sumD_dgs (n : Nat) : ∀ (k a : Nat), sumD (dgs n k) (a : Int) = ((a * 10 ^ k + n % 10 ^ k : Nat) : Int)
  | 0, a => by simp [dgs, sumD, Nat.mod_one]
  | k + 1, a => by
    unfold dgs sumD
    rw [(dgc _).2, show (10 * (a : Int) + ((n / 10 ^ k % 10 : Nat) : Int)) = ((a * 10 + n / 10 ^ k % 10 : Nat) : Int) by push_cast; omega, sumD_dgs n k]
    congr 1
    rw [mod_ten, Nat.pow_succ, Nat.add_mul, Nat.mul_assoc, Nat.mul_comm 10 (10 ^ k)]
    omega
theorem numD_dgs {n : Nat} (h : n < 1000000) : numD (dgs n 6) = n := by
  unfold numD
  rw [if_pos ⟨dgs_len n 6, dgs_all n 6⟩]
  have := sumD_dgs n 6 0
  rw [show (0 : Int) = ((0 : Nat) : Int) from rfl, this]
  congr 1
  omega
theorem doc_key {p : Pts} (h : keyS p ≠ []) : docX (splF (keyS p)) = splS (keyS p) := by
  have n1 : ∀ c : UInt8, c ≠ 47 → (47 : UInt8) ∉ [c] := fun c hc hm => hc (List.mem_singleton.1 hm).symm
  by_cases k1 : p.kind = 1
  · have e : keyS p = jnS [102] [p.feed] := by unfold keyS; rw [if_pos k1]
    rw [e] at h ⊢
    obtain ⟨f1, f2⟩ := jn1_eq (m := [102]) (f := p.feed) (by simp)
    have nf := f1.1 h
    have hL : splF (jnS [102] [p.feed]) = [[102], p.feed] := by
      rw [f2 nf]; exact splF1 (n1 102 (by decide)) (name_no nf).1
    rw [spl_of hL, hL]
    exact rfl
  by_cases k2 : p.kind = 2
  · have e : keyS p = numb (jnS [101] [p.feed]) p.num := by unfold keyS; rw [if_neg k1, if_pos k2]
    rw [e] at h ⊢
    obtain ⟨hk, m, em, hm, en⟩ := numb_eq h
    obtain ⟨f1, f2⟩ := jn1_eq (m := [101]) (f := p.feed) (by simp)
    have nf := f1.1 hk
    have hL : splF (numb (jnS [101] [p.feed]) p.num) = [[101], p.feed, dgs m 6] := by
      rw [en, f2 nf, show [101] ++ 47 :: p.feed ++ 47 :: dgs m 6 = [101] ++ 47 :: (p.feed ++ 47 :: dgs m 6) by simp]; exact splF2 (n1 101 (by decide)) (name_no nf).1 (dgs_no m 6)
    rw [spl_of hL, hL]
    exact (show Pts.mk 2 [] p.feed [] [] (numD (dgs m 6)) = Pts.mk 2 [] p.feed [] [] (atoiV (dgs m 6)) by rw [numD_dgs hm, atoi_dgs hm])
  by_cases k3 : p.kind = 3
  · have e : keyS p = guidS p.feed p.guid := by unfold keyS; rw [if_neg k1, if_neg k2, if_pos k3]
    rw [e] at h ⊢
    have hg : ¬ (jnS [103] [p.feed] = [] ∨ p.guid = [] ∨ 500 < p.guid.length) := fun hh => h (by unfold guidS; rw [if_pos hh])
    have en : guidS p.feed p.guid = jnS [103] [p.feed] ++ 47 :: hexS p.guid := by unfold guidS; rw [if_neg hg]
    obtain ⟨f1, f2⟩ := jn1_eq (m := [103]) (f := p.feed) (by simp)
    have nf := f1.1 fun hh => hg (.inl hh)
    have hL : splF (guidS p.feed p.guid) = [[103], p.feed, hexS p.guid] := by
      rw [en, f2 nf, show [103] ++ 47 :: p.feed ++ 47 :: hexS p.guid = [103] ++ 47 :: (p.feed ++ 47 :: hexS p.guid) by simp]; exact splF2 (n1 103 (by decide)) (name_no nf).1 (hexS_no _)
    rw [spl_of hL, hL]
    exact rfl
  by_cases k4 : p.kind = 4
  · have e : keyS p = jnS [115] [p.user, p.feed] := by unfold keyS; rw [if_neg k1, if_neg k2, if_neg k3, if_pos k4]
    rw [e] at h ⊢
    obtain ⟨na, nb, ej⟩ := jn2_eq h
    have hL : splF (jnS [115] [p.user, p.feed]) = [[115], p.user, p.feed] := by
      rw [ej]; exact splF2 (n1 115 (by decide)) (name_no na).1 (name_no nb).1
    rw [spl_of hL, hL]
    exact rfl
  by_cases k5 : p.kind = 5
  · have e : keyS p = jnS [100] [p.user, p.name] := by unfold keyS; rw [if_neg k1, if_neg k2, if_neg k3, if_neg k4, if_pos k5]
    rw [e] at h ⊢
    obtain ⟨na, nb, ej⟩ := jn2_eq h
    have hL : splF (jnS [100] [p.user, p.name]) = [[100], p.user, p.name] := by
      rw [ej]; exact splF2 (n1 100 (by decide)) (name_no na).1 (name_no nb).1
    rw [spl_of hL, hL]
    exact rfl
  by_cases k6 : p.kind = 6
  · have e : keyS p = numb (jnS [114] [p.user, p.feed]) p.num := by unfold keyS; rw [if_neg k1, if_neg k2, if_neg k3, if_neg k4, if_neg k5, if_pos k6]
    rw [e] at h ⊢
    obtain ⟨hk, m, em, hm, en⟩ := numb_eq h
    obtain ⟨na, nb, ej⟩ := jn2_eq hk
    have hL : splF (numb (jnS [114] [p.user, p.feed]) p.num) = [[114], p.user, p.feed, dgs m 6] := by
      rw [en, ej, show [114] ++ 47 :: (p.user ++ 47 :: p.feed) ++ 47 :: dgs m 6 = [114] ++ 47 :: (p.user ++ 47 :: (p.feed ++ 47 :: dgs m 6)) by simp]; exact splF3 (n1 114 (by decide)) (name_no na).1 (name_no nb).1 (dgs_no m 6)
    rw [spl_of hL, hL]
    exact (show Pts.mk 6 p.user p.feed [] [] (numD (dgs m 6)) = Pts.mk 6 p.user p.feed [] [] (atoiV (dgs m 6)) by rw [numD_dgs hm, atoi_dgs hm])
  by_cases k7 : p.kind = 7
  · have e : keyS p = jnS [109] [p.user, p.feed] := by unfold keyS; rw [if_neg k1, if_neg k2, if_neg k3, if_neg k4, if_neg k5, if_neg k6, if_pos k7]
    rw [e] at h ⊢
    obtain ⟨na, nb, ej⟩ := jn2_eq h
    have hL : splF (jnS [109] [p.user, p.feed]) = [[109], p.user, p.feed] := by
      rw [ej]; exact splF2 (n1 109 (by decide)) (name_no na).1 (name_no nb).1
    rw [spl_of hL, hL]
    exact rfl
  · exact absurd (by unfold keyS; rw [if_neg k1, if_neg k2, if_neg k3, if_neg k4, if_neg k5, if_neg k6, if_neg k7]) h
theorem doc_same (s : Txt) : docS s = parS s := by
  by_cases hd : s = [] ∨ keyS (docX (splF s)) ≠ s
  · have e : docS s = (Pts.zero, false) := by unfold docS; rw [if_pos hd]
    rw [e]
    cases hp : (parS s).2
    · have := par_no hp
      rw [← this, ← hp]
    · exfalso
      have hk := par_ok hp
      have e1 : parS s = (splS s, true) := by
        unfold parS at hp ⊢
        split at hp
        · cases hp
        · rename_i hc; rw [if_neg hc]
      rw [e1] at hk
      replace hk : keyS (splS s) = s := hk
      by_cases hs : s = []
      · subst hs; rw [par_nil] at hp; cases hp
      · have hne : keyS (splS s) ≠ [] := by rw [hk]; exact hs
        have := doc_key hne
        rw [hk] at this
        rcases hd with h | h
        · exact hs h
        · exact h (by rw [this, hk])
  · have e : docS s = (docX (splF s), true) := by unfold docS; rw [if_neg hd]
    have hs : s ≠ [] := fun h => hd (.inl h)
    have hk : keyS (docX (splF s)) = s := Classical.not_not.1 fun h => hd (.inr h)
    have hne : keyS (docX (splF s)) ≠ [] := by rw [hk]; exact hs
    have h1 := doc_key hne
    obtain ⟨h2, h3, h4⟩ := par_key hne
    rw [hk] at h1 h2 h4
    rw [e, h1]
    unfold parS
    rw [if_neg]
    rintro (h | h)
    · exact h3 (h2.symm.trans h)
    · exact h h4
/-! ### parts between signs -/
def cutA (c : UInt8) (acc : Txt) : Txt → List Txt
  | [] => [acc]
  | a :: l => if a = c then acc :: cutA c [] l else cutA c (acc ++ [a]) l
theorem cutA_hit (c : UInt8) (acc r : Txt) : cutA c acc (c :: r) = acc :: cutA c [] r := by
  show (if c = c then acc :: cutA c [] r else _) = _
  rw [if_pos rfl]
theorem cutA_miss {c a : UInt8} (h : ¬ a = c) (acc l : Txt) : cutA c acc (a :: l) = cutA c (acc ++ [a]) l := by
  show (if a = c then acc :: cutA c [] l else _) = _
  rw [if_neg h]
theorem cutA_F (s : Txt) : ∀ acc, (47 : UInt8) ∉ acc → cutA 47 acc s = splF (acc ++ s) := by
  induction s with
  | nil => intro acc h; rw [List.append_nil, splF_K, splK_miss h]; rfl
  | cons a s ih =>
    intro acc h
    by_cases ha : a = 47
    · subst ha
      rw [cutA_hit, splF_K, splK_hit h, ih [] (by simp), List.nil_append, splF_K]
    · rw [cutA_miss ha, ih (acc ++ [a]) (by simp [h]; exact fun e => ha e.symm)]
      simp
end Go.Ez
