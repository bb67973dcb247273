/-
  DATES, plainly: the document's reading by places, and the reader's from the front: the same (RFC 3339).
-/
import Derived.Test.YtififikdlcohpaaDoorDtI
namespace Go.Ez
open Go
set_option linter.unusedSimpArgs false
set_option linter.unusedVariables false
/-- the number of so many digits at a place; -1: they are not there -/
def dg (s : Txt) (a n : Nat) : Int := if a + n ≤ s.length ∧ ((s.drop a).take n).all isDig = true then numV ((s.drop a).take n) 0 else -1
def offR (h m : Int) (c : Option UInt8) : Option Int := if h < 0 ∨ 23 < h ∨ m < 0 ∨ 59 < m then none else some (if c = some 45 then -(h * 3600 + m * 60) else h * 3600 + m * 60)
def tailR (z : Txt) (y mo d h mi c : Int) : Int × Int :=
  if z = [90] ∨ z = [122] then rangeP y mo d h mi c 0 else
  if z.length = 6 ∧ (z[0]? = some 43 ∨ z[0]? = some 45) ∧ z[3]? = some 58 then (match offR (dg z 1 2) (dg z 4 2) z[0]? with | none => (0, 4) | some o => rangeP y mo d h mi c o) else (0, 4)
def headR (s : Txt) : Prop := 20 ≤ s.length ∧ s[4]? = some 45 ∧ s[7]? = some 45 ∧ (s[10]? = some 84 ∨ s[10]? = some 116) ∧ s[13]? = some 58 ∧ s[16]? = some 58
def fracR (s : Txt) : Option Nat := if s[19]? = some 46 then (if ((s.drop 20).takeWhile isDig).length = 0 then none else some (20 + ((s.drop 20).takeWhile isDig).length)) else some 19
open Classical in
noncomputable def netR (s : Txt) : Int × Int :=
  if ¬ headR s then (0, 4) else
  if dg s 0 4 < 0 ∨ dg s 5 2 < 0 ∨ dg s 8 2 < 0 ∨ dg s 11 2 < 0 ∨ dg s 14 2 < 0 ∨ dg s 17 2 < 0 then (0, 4) else
  match fracR s with
  | none => (0, 4)
  | some a => tailR (s.drop a) (dg s 0 4) (dg s 5 2) (dg s 8 2) (dg s 11 2) (dg s 14 2) (dg s 17 2)
theorem numV_nn (l : Txt) (h : l.all isDig = true) : 0 ≤ numV l 0 := (numV_rng l 0 (Int.le_refl _) fun c hc => List.all_eq_true.1 h c hc).1
theorem dg_cases (s : Txt) (a n : Nat) : (a + n ≤ s.length ∧ ((s.drop a).take n).all isDig = true ∧ dg s a n = numV ((s.drop a).take n) 0 ∧ 0 ≤ dg s a n) ∨ (¬ (a + n ≤ s.length ∧ ((s.drop a).take n).all isDig = true) ∧ dg s a n = -1) := by
  unfold dg
  by_cases h : a + n ≤ s.length ∧ ((s.drop a).take n).all isDig = true
  · left; rw [if_pos h]; exact ⟨h.1, h.2, rfl, numV_nn _ h.2⟩
  · right; rw [if_neg h]; exact ⟨h, rfl⟩
theorem num_at (s : Txt) (a : Nat) {n : Nat} (hn : 0 < n) : (a + n ≤ s.length ∧ 0 ≤ dg s a n ∧ numberP n n (s.drop a, false) = (dg s a n, (s.drop (a + n), false))) ∨ (dg s a n = -1 ∧ (numberP n n (s.drop a, false)).2.2 = true) := by
  rcases number_ok (n := n) (s := s.drop a) with ⟨v, t, h1, h2⟩ | ⟨h1, h2⟩
  · left
    unfold numO at h1
    split at h1
    · rename_i hc
      rw [List.length_drop] at hc
      cases h1
      rcases dg_cases s a n with ⟨g1, g2, g3, g4⟩ | ⟨g1, _⟩
      · refine ⟨g1, g4, ?_⟩
        rw [h2, g3, List.drop_drop]
      · exact absurd ⟨by omega, hc.2⟩ g1
    · cases h1
  · right
    refine ⟨?_, h2⟩
    unfold numO at h1
    rcases dg_cases s a n with ⟨g1, g2, _⟩ | ⟨_, g2⟩
    · rw [if_pos ⟨by rw [List.length_drop]; omega, g2⟩] at h1; cases h1
    · exact g2
theorem pre_at (s : Txt) (a : Nat) (c : UInt8) : isPreD [c] (s.drop a) = decide (s[a]? = some c) := by
  rcases h : s.drop a with _ | ⟨d, r⟩
  · rw [pre1e]
    have : s.length ≤ a := List.drop_eq_nil_iff.1 h
    rw [List.getElem?_eq_none this]; rfl
  · have e : s[a]? = some d := by
      have := congrArg (fun l => l[0]?) h
      simpa using this
    rw [e]
    by_cases hd : d = c
    · subst hd; rw [pre1]; simp
    · rw [pre1n hd]; simp [hd]
theorem want_at (s : Txt) (a : Nat) (c : UInt8) : (s[a]? = some c ∧ wantsP [c] (s.drop a, false) = (s.drop (a + 1), false)) ∨ (s[a]? ≠ some c ∧ (wantsP [c] (s.drop a, false)).2 = true) := by
  have hp := pre_at s a c
  by_cases h : s[a]? = some c
  · left
    refine ⟨h, ?_⟩
    rw [h, decide_eq_true rfl] at hp
    simp [wantsP, eatS, hp, List.drop_drop]
  · right
    refine ⟨h, ?_⟩
    rw [decide_eq_false h] at hp
    simp [wantsP, hp]
theorem eats_at (s : Txt) (a : Nat) (c : UInt8) (h : s[a]? = some c) : eatsP [c] (s.drop a, false) = (s.drop (a + 1), false) := by
  have hp := pre_at s a c
  rw [h, decide_eq_true rfl] at hp
  simp [eatsP, eatS, hp, List.drop_drop]
theorem eatsn_at (s : Txt) (a : Nat) (c : UInt8) (h : s[a]? ≠ some c) : eatsP [c] (s.drop a, false) = (s.drop a, false) := by
  have hp := pre_at s a c
  rw [decide_eq_false h] at hp
  simp [eatsP, eatS, hp]
theorem tee_at (s : Txt) (a : Nat) : ((s[a]? = some 84 ∨ s[a]? = some 116) ∧ teeP (s.drop a, false) = (s.drop (a + 1), false)) ∨ (¬ (s[a]? = some 84 ∨ s[a]? = some 116) ∧ (teeP (s.drop a, false)).2 = true) := by
  have hp := pre_at s a 84
  unfold teeP
  by_cases h : s[a]? = some 84
  · left
    refine ⟨.inl h, ?_⟩
    simp only [hp, h, decide_true, if_true]
    exact eats_at s a 84 h
  · simp only [hp, h, decide_false, Bool.false_eq_true, if_false, false_or]
    rw [eatsn_at s a 84 h]
    rcases want_at s a 116 with ⟨h1, h2⟩ | ⟨h1, h2⟩
    · exact .inl ⟨h1, h2⟩
    · exact .inr ⟨h1, h2⟩
theorem teeP_bad {x : RSt} (h : x.2 = true) : (teeP x).2 = true := by
  unfold teeP; split
  · exact h
  · exact wantsP_bad h
theorem fractionP_bad {x : RSt} (h : x.2 = true) : (fractionP x).2 = true := by
  unfold fractionP; split
  · exact numberP_bad h
  · exact h
theorem zedP_bad {x : RSt} (h : x.2 = true) : (zedP x).2.2 = true := by
  unfold zedP; split
  · exact h
  split
  · exact h
  · exact offsetP_bad h
/-- signs, hours, minutes -/
theorem sign_at (z : Txt) : ((z[0]? = some 43 ∨ z[0]? = some 45) ∧ signP (z, false) = (if z[0]? = some 45 then -1 else 1, (z.drop 1, false))) ∨ (¬ (z[0]? = some 43 ∨ z[0]? = some 45) ∧ (signP (z, false)).2.2 = true) := by
  have hp := pre_at z 0 43
  rw [List.drop_zero] at hp
  unfold signP
  by_cases h : z[0]? = some 43
  · left
    refine ⟨.inl h, ?_⟩
    have e := eats_at z 0 43 h
    rw [List.drop_zero] at e
    simp only [hp, h, decide_true, if_true, e]
    rfl
  · have e := eatsn_at z 0 43 h
    rw [List.drop_zero] at e
    simp only [hp, h, decide_false, Bool.false_eq_true, if_false, false_or, e]
    have w := want_at z 0 45
    rw [List.drop_zero] at w
    rcases w with ⟨h1, h2⟩ | ⟨h1, h2⟩
    · left; refine ⟨h1, ?_⟩; rw [h2, if_pos h1]
    · exact .inr ⟨h1, h2⟩
theorem second_off {x : RSt} {y mo d h mi c o : Int} (hx : x.2 = false) : secondP x y mo d h mi c o = if x.1 = [] then rangeP y mo d h mi c o else (0, 4) := by
  unfold secondP
  rw [hx, Bool.false_or]
  by_cases he : x.1 = []
  · simp [he]
  · simp [he]
theorem offR_h {h m : Int} {c : Option UInt8} (e : h < 0 ∨ 23 < h) : offR h m c = none := by unfold offR; rw [if_pos (by omega)]
theorem offR_m {h m : Int} {c : Option UInt8} (e : m < 0 ∨ 59 < m) : offR h m c = none := by unfold offR; rw [if_pos (by omega)]
/-- an offset with a text between -/
theorem off_at (z btw : Txt) (k : Nat) (hk : btw.length = k) (hb : btw = [] ∨ btw = [58]) (y mo d h mi c : Int) :
    secondP (offsetP btw (z, false)).2 y mo d h mi c (offsetP btw (z, false)).1 =
      if z.length = 5 + k ∧ (z[0]? = some 43 ∨ z[0]? = some 45) ∧ (k = 1 → z[3]? = some 58) then (match offR (dg z 1 2) (dg z (3 + k) 2) z[0]? with | none => (0, 4) | some o => rangeP y mo d h mi c o) else (0, 4) := by
  rcases sign_at z with ⟨g0, e0⟩ | ⟨g0, e0⟩
  rotate_left
  · rw [if_neg fun hh => g0 hh.2.1]
    exact secondP_bad (badIf_bad (numberP_bad (wantsP_bad (numberP_bad e0))))
  rcases num_at z 1 (n := 2) (by decide) with ⟨g1, g1', e1⟩ | ⟨g1, e1⟩
  rotate_left
  · rw [offR_h (.inl (by omega))]
    simp only [ite_self]
    refine secondP_bad (badIf_bad (numberP_bad (wantsP_bad ?_)))
    rw [e0]; exact e1
  have e3 : (k = 1 → z[3]? = some 58) ∧ wantsP btw (z.drop 3, false) = (z.drop (3 + k), false) ∨ ¬ (k = 1 → z[3]? = some 58) ∧ (wantsP btw (z.drop 3, false)).2 = true := by
    rcases hb with rfl | rfl
    · subst hk; left; exact ⟨fun h => by simp at h, by simp [wantsP, eatS, isPreD]⟩
    · subst hk
      rcases want_at z 3 58 with ⟨w1, w2⟩ | ⟨w1, w2⟩
      · exact .inl ⟨fun _ => w1, w2⟩
      · exact .inr ⟨fun h => w1 (h rfl), w2⟩
  rcases e3 with ⟨g3, e3⟩ | ⟨g3, e3⟩
  rotate_left
  · rw [if_neg fun hh => g3 hh.2.2]
    refine secondP_bad (badIf_bad (numberP_bad ?_))
    rw [e0]
    simp only [e1]
    exact e3
  rcases num_at z (3 + k) (n := 2) (by decide) with ⟨g4, g4', e4⟩ | ⟨g4, e4⟩
  rotate_left
  · rw [offR_m (.inl (by omega))]
    simp only [ite_self]
    refine secondP_bad (badIf_bad ?_)
    rw [e0]
    simp only [e1, e3]
    exact e4
  have eo : offsetP btw (z, false) = ((if z[0]? = some 45 then -1 else 1) * (dg z 1 2 * 3600 + dg z (3 + k) 2 * 60), badIf (decide (23 < dg z 1 2 ∨ 59 < dg z (3 + k) 2)) (z.drop (3 + k + 2), false)) := by
    unfold offsetP
    rw [e0]
    simp only [e1, e3, e4]
  rw [eo]
  generalize dg z 1 2 = H at *
  generalize dg z (3 + k) 2 = M at *
  by_cases hr : 23 < H ∨ 59 < M
  · rw [decide_eq_true hr]
    rw [secondP_bad rfl]
    rcases hr with hr | hr
    · rw [offR_h (.inr hr)]; simp only [ite_self]
    · rw [offR_m (.inr hr)]; simp only [ite_self]
  · rw [decide_eq_false hr, second_off rfl]
    rw [show offR H M z[0]? = some (if z[0]? = some 45 then -(H * 3600 + M * 60) else H * 3600 + M * 60) by unfold offR; rw [if_neg (by omega)]]
    by_cases hl : z.length = 5 + k
    · rw [if_pos (show (badIf false (z.drop (3 + k + 2), false)).1 = [] from List.drop_eq_nil_iff.2 (by omega)), if_pos (show z.length = 5 + k ∧ (z[0]? = some 43 ∨ z[0]? = some 45) ∧ (k = 1 → z[3]? = some 58) from ⟨hl, g0, g3⟩)]
      by_cases h45 : z[0]? = some 45
      · simp only [h45, if_true]
        congr 1
        omega
      · simp only [h45, if_false]
        congr 1
        omega
    · rw [if_neg (show ¬ (badIf false (z.drop (3 + k + 2), false)).1 = [] from fun he => hl (by have := List.drop_eq_nil_iff.1 he; omega)), if_neg fun hh => hl hh.1]
theorem zed_at (z : Txt) (y mo d h mi c : Int) : secondP (zedP (z, false)).2 y mo d h mi c (zedP (z, false)).1 = tailR z y mo d h mi c := by
  have q1 := pre_at z 0 90
  have q2 := pre_at z 0 122
  rw [List.drop_zero] at q1 q2
  have one : ∀ b : UInt8, z[0]? = some b → (z = [b] ↔ z.drop 1 = []) := fun b hb => by
    cases z with
    | nil => cases hb
    | cons a t => cases hb; simp
  unfold tailR
  by_cases h1 : z[0]? = some 90
  · have e : zedP (z, false) = (0, (z.drop 1, false)) := by
      unfold zedP
      have e := eats_at z 0 90 h1
      rw [List.drop_zero] at e
      simp only [q1, h1, decide_true, if_true, e]
    rw [e, second_off rfl]
    simp only [← one 90 h1]
    by_cases hz : z = [90]
    · rw [if_pos hz, if_pos (.inl hz)]
    · rw [if_neg hz, if_neg (by rintro (h | h); · exact hz h
                                · rw [h] at h1; cases h1), if_neg (by rintro ⟨_, h | h, _⟩ <;> (rw [h1] at h; cases h))]
  · have en1 := eatsn_at z 0 90 h1
    rw [List.drop_zero] at en1
    by_cases h2 : z[0]? = some 122
    · have e : zedP (z, false) = (0, (z.drop 1, false)) := by
        unfold zedP
        have e := eats_at z 0 122 h2
        rw [List.drop_zero] at e
        simp only [q1, h1, decide_false, Bool.false_eq_true, if_false, en1]
        have : eatS z [90] = z := congrArg Prod.fst en1
        simp only [this, q2, h2, decide_true, if_true, e]
      rw [e, second_off rfl]
      simp only [← one 122 h2]
      by_cases hz : z = [122]
      · rw [if_pos hz, if_pos (.inr hz)]
      · rw [if_neg hz, if_neg (by rintro (h | h); · rw [h] at h2; cases h2
                                  · exact hz h), if_neg (by rintro ⟨_, h | h, _⟩ <;> (rw [h2] at h; cases h))]
    · have en2 := eatsn_at z 0 122 h2
      rw [List.drop_zero] at en2
      have e : zedP (z, false) = offsetP [58] (z, false) := by
        unfold zedP
        simp only [q1, h1, decide_false, Bool.false_eq_true, if_false, en1]
        have : eatS z [90] = z := congrArg Prod.fst en1
        simp only [this, q2, h2, decide_false, Bool.false_eq_true, if_false, en2]
      rw [e, off_at z [58] 1 rfl (.inr rfl)]
      rw [if_neg (show ¬ (z = [90] ∨ z = [122]) from by rintro (h | h); · rw [h] at h1; exact h1 rfl
                                                        · rw [h] at h2; exact h2 rfl)]
      by_cases hc : z.length = 6 ∧ (z[0]? = some 43 ∨ z[0]? = some 45) ∧ z[3]? = some 58
      · rw [if_pos hc, if_pos ⟨hc.1, hc.2.1, fun _ => hc.2.2⟩]
      · rw [if_neg hc, if_neg fun hh => hc ⟨hh.1, hh.2.1, hh.2.2 rfl⟩]
theorem frac_at (s : Txt) : (∃ a, fracR s = some a ∧ fractionP (s.drop 19, false) = (s.drop a, false)) ∨ (fracR s = none ∧ (fractionP (s.drop 19, false)).2 = true) := by
  have hp := pre_at s 19 46
  unfold fracR fractionP
  by_cases h : s[19]? = some 46
  · rw [if_pos h]
    simp only [hp, h, decide_true, if_true]
    rw [eats_at s 19 46 h]
    have ht : ((s.drop 20).takeWhile isDig).length = 0 ↔ dg s 20 1 = -1 := by
      rcases dg_cases s 20 1 with ⟨g1, g2, g3, g4⟩ | ⟨g1, g2⟩
      · refine ⟨fun hh => ?_, fun hh => by omega⟩
        rcases hd : s.drop 20 with _ | ⟨c, r⟩
        · have := List.drop_eq_nil_iff.1 hd; omega
        · rw [hd] at g2 hh
          simp at g2
          rw [List.takeWhile_cons_of_pos g2] at hh
          simp at hh
      · refine ⟨fun _ => g2, fun _ => ?_⟩
        rcases hd : s.drop 20 with _ | ⟨c, r⟩
        · rfl
        · have hl : 20 < s.length := by
            rcases Nat.lt_or_ge 20 s.length with h | h
            · exact h
            · rw [List.drop_eq_nil_iff.2 h] at hd; cases hd
          rw [hd] at g1
          have : ¬ isDig c = true := fun hc => g1 ⟨by omega, by simp [hc]⟩
          rw [List.takeWhile_cons_of_neg this]; rfl
    rcases num_at s 20 (n := 1) (by decide) with ⟨g1, g2, e⟩ | ⟨g1, e⟩
    · left
      rw [if_neg fun hh => by have := ht.1 hh; omega]
      refine ⟨_, rfl, ?_⟩
      simp only [show 19 + 1 = 20 from rfl, e]
      congr 1
      have e20 : s.drop 20 = (s.drop 20).takeWhile isDig ++ (s.drop 20).dropWhile isDig := List.takeWhile_append_dropWhile.symm
      have ed : s.drop (20 + ((s.drop 20).takeWhile isDig).length) = (s.drop 20).dropWhile isDig := by
        rw [← List.drop_drop]
        conv => lhs; rw [e20]
        rw [List.drop_append_of_le_length (by rw [← e20]; exact Nat.le_refl _), ← e20, List.drop_of_length_le (Nat.le_refl _), List.nil_append]
      rw [ed]
      rcases hd : s.drop 20 with _ | ⟨c, r⟩
      · have := List.drop_eq_nil_iff.1 hd; omega
      · have : s.drop 21 = r := by rw [show 21 = 20 + 1 from rfl, ← List.drop_drop, hd]; rfl
        rw [this]
        have hc : isDig c = true := by
          rcases dg_cases s 20 1 with ⟨_, g2, _⟩ | ⟨_, g2⟩
          · rw [hd] at g2; simpa using g2
          · omega
        rw [List.dropWhile_cons_of_pos hc]
    · right
      rw [if_pos (ht.2 g1)]
      exact ⟨rfl, e⟩
  · left
    rw [if_neg h]
    refine ⟨19, rfl, ?_⟩
    simp only [hp, h, decide_false, Bool.false_eq_true, if_false]
    exact eatsn_at s 19 46 h
/-- the same, RFC 3339 -/
theorem net_same (s : Txt) : netP s = netR s := by
  classical
  have bad1 : ∀ P : Prop, P → (P → netR s = (0, 4)) → netR s = (0, 4) := fun P h f => f h
  have hd : ¬ headR s → netR s = (0, 4) := fun h => by unfold netR; rw [if_pos h]
  have nd : (dg s 0 4 < 0 ∨ dg s 5 2 < 0 ∨ dg s 8 2 < 0 ∨ dg s 11 2 < 0 ∨ dg s 14 2 < 0 ∨ dg s 17 2 < 0) → netR s = (0, 4) := fun h => by
    unfold netR
    by_cases hh : headR s
    · rw [if_neg (fun g => g hh), if_pos h]
    · rw [if_pos hh]
  have fin : ∀ x : RSt, ∀ y mo d h mi c o : Int, x.2 = true → netR s = (0, 4) → secondP x y mo d h mi c o = netR s := fun x y mo d h mi c o hx hn => by rw [secondP_bad hx, hn]
  unfold netP
  simp only []
  have n0 := num_at s 0 (n := 4) (by decide)
  rw [List.drop_zero] at n0
  rcases n0 with ⟨g0, g0', e0⟩ | ⟨g0, e0⟩
  rotate_left
  · exact fin _ _ _ _ _ _ _ _ (zedP_bad (fractionP_bad (numberP_bad (wantsP_bad (numberP_bad (wantsP_bad (numberP_bad (teeP_bad (numberP_bad (wantsP_bad (numberP_bad (wantsP_bad e0)))))))))))) (nd (by omega))
  simp only [e0, Nat.zero_add]
  rcases want_at s 4 45 with ⟨w4, e4⟩ | ⟨w4, e4⟩
  rotate_left
  · exact fin _ _ _ _ _ _ _ _ (zedP_bad (fractionP_bad (numberP_bad (wantsP_bad (numberP_bad (wantsP_bad (numberP_bad (teeP_bad (numberP_bad (wantsP_bad (numberP_bad e4))))))))))) (hd fun hh => w4 hh.2.1)
  simp only [e4]
  rcases num_at s 5 (n := 2) (by decide) with ⟨g5, g5', e5⟩ | ⟨g5, e5⟩
  rotate_left
  · exact fin _ _ _ _ _ _ _ _ (zedP_bad (fractionP_bad (numberP_bad (wantsP_bad (numberP_bad (wantsP_bad (numberP_bad (teeP_bad (numberP_bad (wantsP_bad e5)))))))))) (nd (by omega))
  simp only [show 4 + 1 = 5 from rfl, e5]
  rcases want_at s 7 45 with ⟨w7, e7⟩ | ⟨w7, e7⟩
  rotate_left
  · exact fin _ _ _ _ _ _ _ _ (zedP_bad (fractionP_bad (numberP_bad (wantsP_bad (numberP_bad (wantsP_bad (numberP_bad (teeP_bad (numberP_bad e7))))))))) (hd fun hh => w7 hh.2.2.1)
  simp only [show 5 + 2 = 7 from rfl, e7]
  rcases num_at s 8 (n := 2) (by decide) with ⟨g8, g8', e8⟩ | ⟨g8, e8⟩
  rotate_left
  · exact fin _ _ _ _ _ _ _ _ (zedP_bad (fractionP_bad (numberP_bad (wantsP_bad (numberP_bad (wantsP_bad (numberP_bad (teeP_bad e8)))))))) (nd (by omega))
  simp only [show 7 + 1 = 8 from rfl, e8]
  rcases tee_at s 10 with ⟨w10, e10⟩ | ⟨w10, e10⟩
  rotate_left
  · exact fin _ _ _ _ _ _ _ _ (zedP_bad (fractionP_bad (numberP_bad (wantsP_bad (numberP_bad (wantsP_bad (numberP_bad e10))))))) (hd fun hh => w10 hh.2.2.2.1)
  simp only [show 8 + 2 = 10 from rfl, e10]
  rcases num_at s 11 (n := 2) (by decide) with ⟨g11, g11', e11⟩ | ⟨g11, e11⟩
  rotate_left
  · exact fin _ _ _ _ _ _ _ _ (zedP_bad (fractionP_bad (numberP_bad (wantsP_bad (numberP_bad (wantsP_bad e11)))))) (nd (by omega))
  simp only [show 10 + 1 = 11 from rfl, e11]
  rcases want_at s 13 58 with ⟨w13, e13⟩ | ⟨w13, e13⟩
  rotate_left
  · exact fin _ _ _ _ _ _ _ _ (zedP_bad (fractionP_bad (numberP_bad (wantsP_bad (numberP_bad e13))))) (hd fun hh => w13 hh.2.2.2.2.1)
  simp only [show 11 + 2 = 13 from rfl, e13]
  rcases num_at s 14 (n := 2) (by decide) with ⟨g14, g14', e14⟩ | ⟨g14, e14⟩
  rotate_left
  · exact fin _ _ _ _ _ _ _ _ (zedP_bad (fractionP_bad (numberP_bad (wantsP_bad e14)))) (nd (by omega))
  simp only [show 13 + 1 = 14 from rfl, e14]
  rcases want_at s 16 58 with ⟨w16, e16⟩ | ⟨w16, e16⟩
  rotate_left
  · exact fin _ _ _ _ _ _ _ _ (zedP_bad (fractionP_bad (numberP_bad e16))) (hd fun hh => w16 hh.2.2.2.2.2)
  simp only [show 14 + 2 = 16 from rfl, e16]
  rcases num_at s 17 (n := 2) (by decide) with ⟨g17, g17', e17⟩ | ⟨g17, e17⟩
  rotate_left
  · exact fin _ _ _ _ _ _ _ _ (zedP_bad (fractionP_bad e17)) (nd (by omega))
  simp only [show 16 + 1 = 17 from rfl, e17, show 17 + 2 = 19 from rfl]
  rcases frac_at s with ⟨a, f1, f2⟩ | ⟨f1, f2⟩
  rotate_left
  · refine fin _ _ _ _ _ _ _ _ (zedP_bad f2) ?_
    by_cases hh : headR s
    · unfold netR
      rw [if_neg (fun g => g hh), f1]
      simp only [ite_self]
    · exact hd hh
  rw [f2, zed_at]
  by_cases h20 : 20 ≤ s.length
  · unfold netR
    rw [if_neg (fun hh => hh ⟨h20, w4, w7, w10, w13, w16⟩), if_neg (by omega), f1]
  · rw [hd fun hh => h20 hh.1]
    have : a = 19 := by
      unfold fracR at f1
      rw [List.getElem?_eq_none (by omega), if_neg (by simp)] at f1
      exact (Option.some.inj f1).symm
    subst this
    rw [List.drop_of_length_le (by omega)]
    rfl
end Go.Ez
