/-
  DATES, plainly: the document's reading of mail's form by parts, and the reader's from the front: the same.
-/
import Derived.Test.YtififikdlcohpaaDoorDtU
namespace Go.Ez
open Go
set_option linter.unusedSimpArgs false
set_option linter.unusedVariables false
/-! ### parts between signs -/
def splA (c : UInt8) (acc : Txt) : Txt → List Txt
  | [] => [acc]
  | a :: l => if a = c then acc :: splA c [] l else splA c (acc ++ [a]) l
theorem splA_hit (c : UInt8) (acc r : Txt) : splA c acc (c :: r) = acc :: splA c [] r := by
  show (if c = c then acc :: splA c [] r else _) = _
  rw [if_pos rfl]
theorem splA_miss {c a : UInt8} (h : ¬ a = c) (acc l : Txt) : splA c acc (a :: l) = splA c (acc ++ [a]) l := by
  show (if a = c then acc :: splA c [] l else _) = _
  rw [if_neg h]
theorem splA_app {c : UInt8} {p r : Txt} (hp : c ∉ p) : ∀ acc, splA c acc (p ++ c :: r) = (acc ++ p) :: splA c [] r := by
  induction p with
  | nil => intro acc; rw [List.nil_append, splA_hit, List.append_nil]
  | cons a p ih =>
    intro acc
    have ha : ¬ a = c := fun h => hp (by rw [h]; exact List.mem_cons_self)
    rw [List.cons_append, splA_miss ha, ih fun h => hp (List.mem_cons_of_mem _ h)]
    simp
theorem splA_end {c : UInt8} {p : Txt} (hp : c ∉ p) : ∀ acc, splA c acc p = [acc ++ p] := by
  induction p with
  | nil => intro acc; simp [splA]
  | cons a p ih =>
    intro acc
    have ha : ¬ a = c := fun h => hp (by rw [h]; exact List.mem_cons_self)
    unfold splA
    rw [if_neg ha, ih fun h => hp (List.mem_cons_of_mem _ h)]
    simp
theorem splA_ne (c : UInt8) (l : Txt) : ∀ acc, splA c acc l ≠ [] := by
  induction l with
  | nil => intro acc h; cases h
  | cons a l ih =>
    intro acc h
    unfold splA at h
    split at h
    · cases h
    · exact ih _ h
theorem splA_one {c : UInt8} {p : Txt} : ∀ {r acc : Txt}, splA c acc r = [p] → acc ++ r = p := by
  intro r
  induction r with
  | nil => intro acc h; unfold splA at h; cases h; simp
  | cons a l ih =>
    intro acc h
    unfold splA at h
    split at h
    · injection h with h1 h2
      exact absurd h2 (splA_ne _ _ _)
    · have := ih h; simpa using this
theorem splA_two {c : UInt8} {p q : Txt} {qs : List Txt} : ∀ {r acc : Txt}, splA c acc r = p :: q :: qs → ∃ r', acc ++ r = p ++ c :: r' ∧ splA c [] r' = q :: qs := by
  intro r
  induction r with
  | nil => intro acc h; unfold splA at h; cases h
  | cons a l ih =>
    intro acc h
    unfold splA at h
    split at h
    · rename_i ha
      injection h with h1 h2
      subst h1; subst ha
      exact ⟨l, rfl, h2⟩
    · obtain ⟨r', e1, e2⟩ := ih h
      exact ⟨r', by simpa using e1, e2⟩
theorem splA_many {c : UInt8} {z : Txt} (h : c ∈ z) : ∃ p q qs, splA c [] z = p :: q :: qs := by
  rcases hs : splA c [] z with _ | ⟨p, _ | ⟨q, qs⟩⟩
  · exact absurd hs (splA_ne _ _ _)
  · obtain ⟨a, b, e⟩ := List.append_of_mem h
    have h1 : ∃ a b, z = a ++ c :: b ∧ c ∉ a := by
      clear hs e
      induction z with
      | nil => cases h
      | cons x z ih =>
        by_cases hx : x = c
        · exact ⟨[], z, by rw [hx]; rfl, by simp⟩
        · rcases List.mem_cons.1 h with h | h
          · exact absurd h.symm hx
          · obtain ⟨a, b, e, ha⟩ := ih h
            exact ⟨x :: a, b, by rw [e]; rfl, by simp [ha]; exact fun h => hx h.symm⟩
    obtain ⟨a, b, e, ha⟩ := h1
    rw [e, splA_app ha] at hs
    injection hs with _ h2
    exact absurd h2 (splA_ne _ _ _)
  · exact ⟨p, q, qs, rfl⟩

/-! ### places in lists -/
def plc : List Txt → Txt → Int
  | [], _ => -1
  | p :: l, s => if p = s then 0 else if plc l s < 0 then -1 else plc l s + 1
theorem plc_at {ls : List Txt} {s : Txt} : ∀ {i : Nat}, (∀ j, j < i → ls[j]? ≠ some s) → ls[i]? = some s → plc ls s = i := by
  induction ls with
  | nil => intro i _ h; cases h
  | cons p l ih =>
    intro i h0 h1
    cases i with
    | zero => cases h1; unfold plc; rw [if_pos rfl]; rfl
    | succ i =>
      have := ih (i := i) (fun j hj => h0 (j + 1) (by omega)) h1
      unfold plc
      rw [if_neg fun hp => h0 0 (by omega) (by rw [hp]; rfl), this, if_neg (by omega)]
      push_cast; rfl
theorem plc_no {ls : List Txt} {s : Txt} (h : ∀ j : Nat, ls[j]? ≠ some s) : plc ls s = -1 := by
  induction ls with
  | nil => rfl
  | cons p l ih =>
    unfold plc
    rw [if_neg fun hp => h 0 (by rw [hp]; rfl), ih fun j => h (j + 1), if_pos (by decide)]
theorem plc_cases (ls : List Txt) (s : Txt) : (∃ i : Nat, ls[i]? = some s ∧ plc ls s = i) ∨ (s ∉ ls ∧ plc ls s = -1) := by
  induction ls with
  | nil => exact .inr ⟨by simp, rfl⟩
  | cons p l ih =>
    by_cases hp : p = s
    · left; refine ⟨0, by rw [hp]; rfl, ?_⟩; unfold plc; rw [if_pos hp]; rfl
    · rcases ih with ⟨i, h1, h2⟩ | ⟨h1, h2⟩
      · left
        refine ⟨i + 1, h1, ?_⟩
        unfold plc
        rw [if_neg hp, h2, if_neg (by omega)]; push_cast; rfl
      · right
        refine ⟨by simp [h1]; exact fun h => hp h.symm, ?_⟩
        unfold plc
        rw [if_neg hp, h2, if_pos (by decide)]

/-! ### zones -/
def zoneN (z : Txt) : Option Int :=
  if z = [71, 77, 84] ∨ z = [85, 84] ∨ z = [90] then some 0 else
  if z = [69, 68, 84] then some (-14400) else
  if z = [69, 83, 84] ∨ z = [67, 68, 84] then some (-18000) else
  if z = [67, 83, 84] ∨ z = [77, 68, 84] then some (-21600) else
  if z = [77, 83, 84] ∨ z = [80, 68, 84] then some (-25200) else
  if z = [80, 83, 84] then some (-28800) else none
def zoneR (z : Txt) : Option Int :=
  if z.length = 5 ∧ (z[0]? = some 43 ∨ z[0]? = some 45) then offR (dg z 1 2) (dg z 3 2) z[0]? else zoneN z
theorem zoneN_mem {z : Txt} (h : z ∉ zonesL) : zoneN z = none := by
  unfold zonesL at h
  simp only [List.mem_cons, List.not_mem_nil, or_false, not_or] at h
  obtain ⟨h1, h2, h3, h4, h5, h6, h7, h8, h9, h10, h11⟩ := h
  unfold zoneN
  simp only [h1, h2, h3, h4, h5, h6, h7, h8, h9, h10, h11, or_self, if_false]
theorem oneP_ex (ls : List Txt) (s : Txt) : ((oneP ls s).1 = 0 ∧ (oneP ls s).2 = s) ∨ (0 < (oneP ls s).1 ∧ ∃ p, ls[(oneP ls s).1 - 1]? = some p ∧ isPreD p s = true ∧ (oneP ls s).2 = s.drop p.length) := by
  induction ls with
  | nil => exact .inl ⟨rfl, rfl⟩
  | cons p l ih =>
    unfold oneP
    cases hp : isPreD p s
    · simp only [Bool.false_eq_true, if_false]
      rcases ih with ⟨h1, h2⟩ | ⟨h1, q, h2, h3, h4⟩
      · left; rw [h1]; exact ⟨rfl, h2⟩
      · right
        rw [if_neg (by omega)]
        refine ⟨by omega, q, ?_, h3, h4⟩
        rw [show (oneP l s).1 + 1 - 1 = ((oneP l s).1 - 1) + 1 by omega]
        exact h2
    · right
      simp only [if_true]
      exact ⟨by decide, p, rfl, hp, rfl⟩
theorem isPre_split {p s : Txt} (h : isPreD p s = true) : s = p ++ s.drop p.length := by
  have e := of_decide_eq_true h
  conv => lhs; rw [← List.take_append_drop p.length s, e]
theorem pre_zones : ∀ p ∈ zonesL, ∀ q ∈ zonesL, isPreD p q = true → p = q := by decide
theorem head_zones : ∀ p ∈ zonesL, p ≠ [] ∧ p[0]? ≠ some 43 ∧ p[0]? ≠ some 45 := by decide
theorem zone_same (z : Txt) (y mo d h mi c : Int) : secondP (zoneP (z, false)).2 y mo d h mi c (zoneP (z, false)).1 = (match zoneR z with | none => (0, 4) | some o => rangeP y mo d h mi c o) := by
  by_cases hm : z ∈ zonesL
  · have e : ∀ p ∈ zonesL, (zoneP (p, false)).2 = ([], false) ∧ zoneR p = some (zoneP (p, false)).1 := by decide +kernel
    obtain ⟨e1, e2⟩ := e z hm
    rw [e1, e2, second_off rfl, if_pos rfl]
  · rcases oneP_ex zonesL z with ⟨h1, h2⟩ | ⟨h1, p, h2, h3, h4⟩
    · have e : zoneP (z, false) = offsetP [] (z, false) := by
        unfold zoneP; simp only [h1, h2, Nat.lt_irrefl, if_false]
      rw [e, off_at z [] 0 rfl (.inl rfl)]
      unfold zoneR
      by_cases hc : z.length = 5 ∧ (z[0]? = some 43 ∨ z[0]? = some 45)
      · rw [if_pos ⟨hc.1, hc.2, fun h => (by simp at h)⟩, if_pos hc]
        rfl
      · rw [if_neg fun hh => hc ⟨hh.1, hh.2.1⟩, if_neg hc, zoneN_mem hm]
    · have hp : p ∈ zonesL := List.mem_of_getElem? h2
      have hs := isPre_split h3
      obtain ⟨n0, n1, n2⟩ := head_zones p hp
      have hh : z[0]? = p[0]? := by
        rw [hs]
        cases p with
        | nil => exact absurd rfl n0
        | cons a p => rfl
      have e2 : (zoneP (z, false)).2 = (z.drop p.length, false) := by unfold zoneP; rw [if_pos h1, h4]
      rw [e2, second_off rfl, if_neg (fun he => hm (by rw [hs]; simp only at he; rw [he, List.append_nil]; exact hp))]
      unfold zoneR
      have hno : ¬ (z.length = 5 ∧ (z[0]? = some 43 ∨ z[0]? = some 45)) := by
        rw [hh]
        rintro ⟨_, h | h⟩
        · exact n1 h
        · exact n2 h
      rw [if_neg hno, zoneN_mem hm]
theorem zoneR_sp {z : Txt} (h : (32 : UInt8) ∈ z) : zoneR z = none := by
  have hm : z ∉ zonesL := fun hz => by
    have : ∀ p ∈ zonesL, (32 : UInt8) ∉ p := by decide
    exact this z hz h
  unfold zoneR
  split
  · rename_i hc
    rcases dg_cases z 1 2 with ⟨g1, g2, _⟩ | ⟨_, g⟩
    rotate_left
    · unfold offR; rw [g, if_pos (.inl (by decide))]
    rcases dg_cases z 3 2 with ⟨g3, g4, _⟩ | ⟨_, g⟩
    rotate_left
    · unfold offR; rw [g, if_pos (.inr (.inr (.inl (by decide))))]
    exfalso
    match z, hc with
    | [a, b, c, d, e], hc =>
      simp at g2 g4
      obtain ⟨_, hc⟩ := hc
      simp at hc
      simp at h
      have n32 : ¬ isDig 32 = true := by decide
      rcases h with h | h | h | h | h
      · subst h; rcases hc with hc | hc <;> exact absurd hc (by decide)
      · subst h; exact n32 g2.1
      · subst h; exact n32 g2.2
      · subst h; exact n32 g4.1
      · subst h; exact n32 g4.2
  · exact zoneN_mem hm

/-! ### what each part must be -/
def okDay (p : Txt) : Prop := 1 ≤ p.length ∧ p.length ≤ 2 ∧ p.all isDig = true
def okYear (p : Txt) : Prop := (p.length = 4 ∨ p.length = 2) ∧ p.all isDig = true
def okTime (t : Txt) : Prop := (t.length = 5 ∨ t.length = 8) ∧ t[2]? = some 58 ∧ (t.length = 8 → t[5]? = some 58) ∧ 0 ≤ dg t 0 2 ∧ 0 ≤ dg t 3 2 ∧ (t.length = 8 → 0 ≤ dg t 6 2)
def yearV (p : Txt) : Int := if p.length = 2 then (if numV p 0 < 69 then numV p 0 + 2000 else numV p 0 + 1900) else numV p 0
def timeC (t : Txt) : Int := if t.length = 8 then dg t 6 2 else 0
theorem dg_all (p : Txt) : dg p 0 p.length = if p.all isDig = true then numV p 0 else -1 := by
  unfold dg
  simp
theorem digs_sp {m : Nat} {p r : Txt} (hd : p.all isDig = true) (hm : p.length ≤ m) : digs m (p ++ 32 :: r) = p := digs_end hd hm (by decide)
theorem day_fwd {p r : Txt} (h : okDay p) : numberP 1 2 (p ++ 32 :: r, false) = (numV p 0, (32 :: r, false)) := by
  obtain ⟨h1, h2, h3⟩ := h
  unfold numberP
  simp only [digs_sp h3 h2, List.drop_left', Bool.false_or]
  rw [decide_eq_false (by omega)]
theorem digs_pre (m : Nat) (s : Txt) : s = digs m s ++ s.drop (digs m s).length := by
  have h : digs m s <+: s := (List.takeWhile_prefix _).trans (List.take_prefix _ _)
  exact (List.prefix_iff_eq_append.1 h).symm
theorem want_bwd {c : UInt8} {x : RSt} (h : (wantsP [c] x).2 = false) : ∃ r, x = (c :: r, false) ∧ wantsP [c] x = (r, false) := by
  obtain ⟨s, b⟩ := x
  cases b with
  | true => rw [wantsP_bad rfl] at h; cases h
  | false =>
    have w := want_at s 0 c
    rw [List.drop_zero] at w
    rcases w with ⟨w1, w2⟩ | ⟨w1, w2⟩
    · cases s with
      | nil => cases w1
      | cons a r => cases w1; exact ⟨r, rfl, w2⟩
    · rw [w2] at h; cases h
theorem num_bwd {l m : Nat} {x : RSt} (h : (numberP l m x).2.2 = false) : x.2 = false ∧ l ≤ (digs m x.1).length ∧ numberP l m x = (numV (digs m x.1) 0, (x.1.drop (digs m x.1).length, false)) := by
  unfold numberP at h ⊢
  simp only [Bool.or_eq_false_iff, decide_eq_false_iff_not] at h
  refine ⟨h.1, by omega, ?_⟩
  rw [h.1, decide_eq_false h.2]; rfl
theorem day_bwd {s : Txt} (h : (wantsP [32] (numberP 1 2 (s, false)).2).2 = false) : ∃ p r, s = p ++ 32 :: r ∧ okDay p := by
  obtain ⟨r, e1, e2⟩ := want_bwd h
  obtain ⟨_, n2, n3⟩ := num_bwd (x := (s, false)) (by rw [e1])
  rw [n3] at e1
  have hd := digs_pre 2 s
  simp only at n2 e1
  injection e1 with e1 _
  rw [e1] at hd
  exact ⟨_, r, hd, n2, digs_len.1, List.all_eq_true.2 fun c hc => digs_all c hc⟩
theorem month_fwd {p r : Txt} {i : Nat} (h : monthsL[i]? = some p) : monthP (p ++ 32 :: r, false) = (i + 1, (32 :: r, false)) := by
  have hi : i < 12 := (List.getElem?_eq_some_iff.1 h).1
  have := month_at i hi (32 :: r)
  rw [List.getD_eq_getElem?_getD, h] at this
  exact this
theorem month_bwd {s : Txt} (h : (wantsP [32] (monthP (s, false)).2).2 = false) : ∃ p r, s = p ++ 32 :: r ∧ p ∈ monthsL := by
  obtain ⟨r, e1, e2⟩ := want_bwd h
  unfold monthP badIf at e1
  simp only [Bool.false_or] at e1
  injection e1 with e1 e3
  have e3 := of_decide_eq_false e3
  rcases oneP_ex monthsL s with ⟨h1, _⟩ | ⟨h1, p, h2, h3, h4⟩
  · exact absurd h1 e3
  · rw [h4] at e1
    have := isPre_split h3
    rw [e1] at this
    exact ⟨p, r, this, List.mem_of_getElem? h2⟩
theorem year_fwd {p r : Txt} (h : okYear p) : yearP (p ++ 32 :: r, false) = (yearV p, (32 :: r, false)) := by
  obtain ⟨h1, h2⟩ := h
  have hd : digs 4 (p ++ 32 :: r) = p := digs_sp h2 (by omega)
  have hn : numberP 2 4 (p ++ 32 :: r, false) = (numV p 0, (32 :: r, false)) := by
    unfold numberP
    simp only [hd, List.drop_left', Bool.false_or]
    rw [decide_eq_false (by omega)]
  unfold yearP yearV
  simp only [hd, hn, badIf, Bool.false_or]
  rcases h1 with h1 | h1
  · rw [h1]; rfl
  · rw [h1]
    simp only [Nat.reduceEqDiff, if_false, decide_false, if_true]
    congr 1
    split <;> split <;> omega
theorem year_bwd {s : Txt} (h : (wantsP [32] (yearP (s, false)).2).2 = false) : ∃ p r, s = p ++ 32 :: r ∧ okYear p := by
  obtain ⟨r, e1, e2⟩ := want_bwd h
  have hb : (numberP 2 4 (s, false)).2.2 = false := by
    have := congrArg Prod.snd e1
    unfold yearP badIf at this
    simp only [Bool.or_eq_false_iff] at this
    exact this.1
  obtain ⟨_, n2, n3⟩ := num_bwd (x := (s, false)) hb
  unfold yearP badIf at e1
  rw [n3] at e1
  simp only [Bool.false_or] at n2 e1
  injection e1 with e1 e3
  have e3 := of_decide_eq_false e3
  have hd := digs_pre 4 s
  rw [e1] at hd
  have := (digs_len (most := 4) (s := s)).1
  exact ⟨_, r, hd, by omega, List.all_eq_true.2 fun c hc => digs_all c hc⟩
theorem col_at (t : Txt) : colP (t.drop 5, false) = if t[5]? = some 58 then numberP 2 2 (t.drop 6, false) else (0, (t.drop 5, false)) := by
  unfold colP
  have hp := pre_at t 5 58
  by_cases h : t[5]? = some 58
  · simp only [hp, h, decide_true, if_true, eats_at t 5 58 h]
  · simp only [hp, h, decide_false, Bool.false_eq_true, if_false, eatsn_at t 5 58 h]
theorem dg_app {t r : Txt} {a n : Nat} (h : a + n ≤ t.length) : dg (t ++ r) a n = dg t a n := by
  unfold dg
  have e : ((t ++ r).drop a).take n = (t.drop a).take n := by
    rw [List.drop_append_of_le_length (by omega), List.take_append_of_le_length (by rw [List.length_drop]; omega)]
  rw [e]
  by_cases hc : ((t.drop a).take n).all isDig = true
  · rw [if_pos ⟨by rw [List.length_append]; omega, hc⟩, if_pos ⟨h, hc⟩]
  · rw [if_neg fun hh => hc hh.2, if_neg fun hh => hc hh.2]
/-- hours, minutes, seconds -/
def timeP (x : RSt) : (Int × Int × Int) × RSt :=
  let h := numberP 2 2 x
  let mi := numberP 2 2 (wantsP [58] h.2)
  let c := colP mi.2
  ((h.1, mi.1, c.1), c.2)
theorem at_app {t r : Txt} {a : Nat} (h : a < t.length) : (t ++ r)[a]? = t[a]? := List.getElem?_append_left h
theorem num_good {s : Txt} {a n : Nat} (hn : 0 < n) (h : 0 ≤ dg s a n) : numberP n n (s.drop a, false) = (dg s a n, (s.drop (a + n), false)) := by
  rcases num_at s a hn with ⟨_, _, e⟩ | ⟨e, _⟩
  · exact e
  · omega
theorem want_good {s : Txt} {a : Nat} {c : UInt8} (h : s[a]? = some c) : wantsP [c] (s.drop a, false) = (s.drop (a + 1), false) := by
  rcases want_at s a c with ⟨_, e⟩ | ⟨e, _⟩
  · exact e
  · exact absurd h e
theorem time_fwd {t r : Txt} (h : okTime t) : timeP (t ++ 32 :: r, false) = ((dg t 0 2, dg t 3 2, timeC t), (32 :: r, false)) := by
  obtain ⟨h1, h2, h3, h4, h5, h6⟩ := h
  have hl : 5 ≤ t.length := by omega
  have d0 : dg (t ++ 32 :: r) 0 2 = dg t 0 2 := dg_app (by omega)
  have d3 : dg (t ++ 32 :: r) 3 2 = dg t 3 2 := dg_app (by omega)
  have n0 := num_good (s := t ++ 32 :: r) (a := 0) (n := 2) (by decide) (by omega)
  have w2 := want_good (s := t ++ 32 :: r) (a := 2) (c := 58) (by rw [at_app (by omega)]; exact h2)
  have n3 := num_good (s := t ++ 32 :: r) (a := 3) (n := 2) (by decide) (by omega)
  have c5 := col_at (t ++ 32 :: r)
  rw [List.drop_zero] at n0
  unfold timeP
  simp only [n0, Nat.zero_add, w2, show 2 + 1 = 3 from rfl, n3, show 3 + 2 = 5 from rfl, c5, d0, d3]
  unfold timeC
  rcases h1 with h1 | h1
  · have e : (t ++ 32 :: r)[5]? = some 32 := by rw [List.getElem?_append_right (by omega), h1]; rfl
    rw [e, if_neg (by decide), if_neg (by omega)]
    rw [List.drop_left' h1]
  · have e : (t ++ 32 :: r)[5]? = some 58 := by rw [at_app (by omega)]; exact h3 h1
    have d6 : dg (t ++ 32 :: r) 6 2 = dg t 6 2 := dg_app (by omega)
    have n6 := num_good (s := t ++ 32 :: r) (a := 6) (n := 2) (by decide) (by have := h6 h1; omega)
    rw [e, if_pos rfl, if_pos h1, n6, d6]
    rw [List.drop_left' (show t.length = 6 + 2 from h1)]
theorem time_bwd {s : Txt} (h : (wantsP [32] (timeP (s, false)).2).2 = false) : ∃ t r, s = t ++ 32 :: r ∧ okTime t := by
  have hc0 : (timeP (s, false)).2.2 = false := by
    cases hh : (timeP (s, false)).2.2
    · rfl
    · rw [wantsP_bad hh] at h; cases h
  unfold timeP at hc0 h
  simp only at hc0 h
  have n0 := num_at s 0 (n := 2) (by decide)
  rw [List.drop_zero] at n0
  rcases n0 with ⟨g0, g0', e0⟩ | ⟨g0, e0⟩
  rotate_left
  · rw [colP_bad (numberP_bad (wantsP_bad e0))] at hc0; cases hc0
  rw [e0] at h hc0
  simp only [Nat.zero_add] at h hc0
  rcases want_at s 2 58 with ⟨w2, e2⟩ | ⟨w2, e2⟩
  rotate_left
  · rw [colP_bad (numberP_bad e2)] at hc0; cases hc0
  rw [e2] at h hc0
  rcases num_at s 3 (n := 2) (by decide) with ⟨g3, g3', e3⟩ | ⟨g3, e3⟩
  rotate_left
  · rw [colP_bad e3] at hc0; cases hc0
  simp only [show 2 + 1 = 3 from rfl, e3, show 3 + 2 = 5 from rfl, col_at s] at h hc0
  -- a part of so many signs, and a blank
  have mk : ∀ k, s[k]? = some 32 → s = s.take k ++ 32 :: s.drop (k + 1) ∧ (s.take k).length = k := fun k hk => by
    obtain ⟨hk1, hk2⟩ := List.getElem?_eq_some_iff.1 hk
    refine ⟨?_, by rw [List.length_take]; omega⟩
    rw [← hk2, ← List.drop_eq_getElem_cons hk1, List.take_append_drop]
  have dgt : ∀ k a n, a + n ≤ k → k ≤ s.length → dg (s.take k) a n = dg s a n := fun k a n h1 h2 => by
    conv => rhs; rw [← List.take_append_drop k s]
    exact (dg_app (by rw [List.length_take]; omega)).symm
  have att : ∀ k a, a < k → (s.take k)[a]? = s[a]? := fun k a h => by rw [List.getElem?_take, if_pos h]
  by_cases h5 : s[5]? = some 58
  · rw [if_pos h5] at h hc0
    rcases num_at s 6 (n := 2) (by decide) with ⟨g6, g6', e6⟩ | ⟨g6, e6⟩
    rotate_left
    · rw [e6] at hc0; cases hc0
    rw [e6] at h
    have w8 : s[8]? = some 32 := by
      rcases want_at s 8 32 with ⟨w, _⟩ | ⟨_, e⟩
      · exact w
      · rw [show 6 + 2 = 8 from rfl, e] at h; cases h
    obtain ⟨m1, m2⟩ := mk 8 w8
    refine ⟨_, _, m1, .inr m2, ?_, fun _ => ?_, ?_, ?_, fun _ => ?_⟩
    · rw [att 8 2 (by decide)]; exact w2
    · rw [att 8 5 (by decide)]; exact h5
    · rw [dgt 8 0 2 (by decide) (by omega)]; exact g0'
    · rw [dgt 8 3 2 (by decide) (by omega)]; exact g3'
    · rw [dgt 8 6 2 (by decide) (by omega)]; exact g6'
  · rw [if_neg h5] at h
    have w5 : s[5]? = some 32 := by
      rcases want_at s 5 32 with ⟨w, _⟩ | ⟨_, e⟩
      · exact w
      · rw [e] at h; cases h
    obtain ⟨m1, m2⟩ := mk 5 w5
    refine ⟨_, _, m1, .inl m2, ?_, fun h8 => by omega, ?_, ?_, fun h8 => by omega⟩
    · rw [att 5 2 (by decide)]; exact w2
    · rw [dgt 5 0 2 (by decide) (by omega)]; exact g0'
    · rw [dgt 5 3 2 (by decide) (by omega)]; exact g3'
theorem nosp_dig {p : Txt} (h : p.all isDig = true) : (32 : UInt8) ∉ p := fun hm => absurd (List.all_eq_true.1 h 32 hm) (by decide)
theorem nosp_month {p : Txt} (h : p ∈ monthsL) : (32 : UInt8) ∉ p := by
  have : ∀ p ∈ monthsL, (32 : UInt8) ∉ p := by decide
  exact this p h
theorem dg_dig {t : Txt} {a n j : Nat} (h : 0 ≤ dg t a n) (h1 : a ≤ j) (h2 : j < a + n) : t[j]? ≠ some 32 := fun hj => by
  rcases dg_cases t a n with ⟨g1, g2, _⟩ | ⟨_, g⟩
  · have hm : (32 : UInt8) ∈ (t.drop a).take n := by
      refine List.mem_of_getElem? (i := j - a) ?_
      rw [List.getElem?_take, if_pos (by omega), List.getElem?_drop, show a + (j - a) = j by omega]
      exact hj
    exact absurd (List.all_eq_true.1 g2 32 hm) (by decide)
  · omega
theorem nosp_time {t : Txt} (h : okTime t) : (32 : UInt8) ∉ t := fun hm => by
  obtain ⟨h1, h2, h3, h4, h5, h6⟩ := h
  obtain ⟨j, hj⟩ := List.mem_iff_getElem?.1 hm
  have hl := (List.getElem?_eq_some_iff.1 hj).1
  by_cases a : j < 2
  · exact dg_dig h4 (Nat.zero_le _) (by omega) hj
  by_cases b : j = 2
  · subst b; rw [hj] at h2; exact absurd h2 (by decide)
  by_cases c : j < 5
  · exact dg_dig h5 (by omega) (by omega) hj
  have h8 : t.length = 8 := by omega
  by_cases d : j = 5
  · subst d; have := h3 h8; rw [hj] at this; exact absurd this (by decide)
  exact dg_dig (h6 h8) (by omega) (by omega) hj
/-- mail's form, by five parts -/
def ok4 (p0 p1 p2 p3 : Txt) : Prop := okDay p0 ∧ p1 ∈ monthsL ∧ okYear p2 ∧ okTime p3
open Classical in
noncomputable def partsR (p0 p1 p2 p3 p4 : Txt) : Int × Int :=
  if ok4 p0 p1 p2 p3 then (match zoneR p4 with | none => (0, 4) | some o => rangeP (yearV p2) (plc monthsL p1 + 1) (numV p0 0) (dg p3 0 2) (dg p3 3 2) (timeC p3) o) else (0, 4)
noncomputable def mailM (s : Txt) : Int × Int :=
  match splA 32 [] s with
  | [p0, p1, p2, p3, p4] => partsR p0 p1 p2 p3 p4
  | _ => (0, 4)
theorem mailT_time (a : RSt) : mailT a =
    (let d := numberP 1 2 a
     let m := monthP (wantsP [32] d.2)
     let y := yearP (wantsP [32] m.2)
     let t := timeP (wantsP [32] y.2)
     let z := zoneP (wantsP [32] t.2)
     secondP z.2 y.1 (m.1 : Int) d.1 t.1.1 t.1.2.1 t.1.2.2 z.1) := by simp only [mailT, timeP]
theorem mailT_parts {p0 p1 p2 p3 r : Txt} (h : ok4 p0 p1 p2 p3) : mailT (p0 ++ 32 :: (p1 ++ 32 :: (p2 ++ 32 :: (p3 ++ 32 :: r))), false) =
    (match zoneR r with | none => (0, 4) | some o => rangeP (yearV p2) (plc monthsL p1 + 1) (numV p0 0) (dg p3 0 2) (dg p3 3 2) (timeC p3) o) := by
  obtain ⟨h0, h1, h2, h3⟩ := h
  rcases plc_cases monthsL p1 with ⟨i, hi, e⟩ | ⟨hn, _⟩
  rotate_left
  · exact absurd h1 hn
  rw [mailT_time]
  simp only [day_fwd h0, wants1, month_fwd hi, year_fwd h2, time_fwd h3]
  rw [zone_same, e]
  push_cast
  rfl
theorem timeP_bad {x : RSt} (h : x.2 = true) : (timeP x).2.2 = true := colP_bad (numberP_bad (wantsP_bad (numberP_bad h)))
theorem ok_of (s : Txt) : (∃ p0 p1 p2 p3 r, s = p0 ++ 32 :: (p1 ++ 32 :: (p2 ++ 32 :: (p3 ++ 32 :: r))) ∧ ok4 p0 p1 p2 p3) ∨ mailT (s, false) = (0, 4) := by
  rw [mailT_time]
  simp only
  have nb : ∀ {b : Bool}, ¬ b = true → b = false := fun {b} h => Bool.eq_false_iff.2 h
  by_cases b0 : (wantsP [32] (numberP 1 2 (s, false)).2).2 = true
  · exact .inr (secondP_bad (zoneP_bad (wantsP_bad (timeP_bad (wantsP_bad (yearP_bad (wantsP_bad (monthP_bad b0))))))))
  obtain ⟨p0, r0, rfl, h0⟩ := day_bwd (nb b0)
  simp only [day_fwd h0, wants1]
  by_cases b1 : (wantsP [32] (monthP (r0, false)).2).2 = true
  · exact .inr (secondP_bad (zoneP_bad (wantsP_bad (timeP_bad (wantsP_bad (yearP_bad b1))))))
  obtain ⟨p1, r1, rfl, h1⟩ := month_bwd (nb b1)
  obtain ⟨i, hi⟩ := List.mem_iff_getElem?.1 h1
  simp only [month_fwd hi, wants1]
  by_cases b2 : (wantsP [32] (yearP (r1, false)).2).2 = true
  · exact .inr (secondP_bad (zoneP_bad (wantsP_bad (timeP_bad b2))))
  obtain ⟨p2, r2, rfl, h2⟩ := year_bwd (nb b2)
  simp only [year_fwd h2, wants1]
  by_cases b3 : (wantsP [32] (timeP (r2, false)).2).2 = true
  · exact .inr (secondP_bad (zoneP_bad b3))
  obtain ⟨p3, r3, rfl, h3⟩ := time_bwd (nb b3)
  exact .inl ⟨p0, p1, p2, p3, r3, rfl, h0, h1, h2, h3⟩
theorem mailM_same (s : Txt) : mailM s = mailT (s, false) := by
  classical
  rcases ok_of s with ⟨p0, p1, p2, p3, r, rfl, h⟩ | hb
  · rw [mailT_parts h]
    have e : splA 32 [] (p0 ++ 32 :: (p1 ++ 32 :: (p2 ++ 32 :: (p3 ++ 32 :: r)))) = p0 :: p1 :: p2 :: p3 :: splA 32 [] r := by
      rw [splA_app (nosp_dig h.1.2.2), splA_app (nosp_month h.2.1), splA_app (nosp_dig h.2.2.1.2), splA_app (nosp_time h.2.2.2)]
      rfl
    unfold mailM
    rw [e]
    by_cases hz : (32 : UInt8) ∈ r
    · obtain ⟨p, q, qs, e2⟩ := splA_many hz
      rw [e2, zoneR_sp hz]
    · rw [splA_end hz]
      simp only [List.nil_append]
      unfold partsR
      rw [if_pos h]
  · rw [hb]
    unfold mailM
    split
    · rename_i p0 p1 p2 p3 p4 e
      unfold partsR
      split
      · rename_i h
        obtain ⟨r0, e0, e⟩ := splA_two e
        obtain ⟨r1, e1, e⟩ := splA_two e
        obtain ⟨r2, e2, e⟩ := splA_two e
        obtain ⟨r3, e3, e⟩ := splA_two e
        have e4 := splA_one e
        simp only [List.nil_append] at e0 e1 e2 e3 e4
        subst e4; subst e3; subst e2; subst e1; subst e0
        rw [mailT_parts h] at hb
        exact hb
      · rfl
    · rfl
/-! ### days' names -/
open Classical in
noncomputable def mailR (s : Txt) : Int × Int :=
  if 5 < s.length ∧ s[3]? = some 44 then (if plc wdaysL (s.take 3) < 0 ∨ s[4]? ≠ some 32 then (0, 4) else mailM (s.drop 5)) else mailM s
theorem letter_bad {s : Txt} {a : UInt8} (h : s[0]? = some a) (ha : isDig a = false) : mailT (s, false) = (0, 4) := by
  cases s with
  | nil => cases h
  | cons b s =>
    cases h
    refine secondP_bad (zoneP_bad (wantsP_bad (colP_bad (numberP_bad (wantsP_bad (numberP_bad (wantsP_bad (yearP_bad (wantsP_bad (monthP_bad (wantsP_bad ?_)))))))))))
    unfold numberP digs
    simp [List.takeWhile_cons, ha]
theorem wday_facts : ∀ p ∈ wdaysL, p.length = 3 ∧ ∃ a, p[0]? = some a ∧ isDig a = false := by
  intro p hp
  unfold wdaysL at hp
  simp only [List.mem_cons, List.not_mem_nil, or_false] at hp
  rcases hp with rfl | rfl | rfl | rfl | rfl | rfl | rfl <;> exact ⟨rfl, _, rfl, by decide⟩
/-- the same, mail's form -/
theorem mail_same (s : Txt) : mailP s = mailR s := by
  classical
  rw [mailP_T]
  unfold mailR
  rcases oneP_ex wdaysL s with ⟨h1, h2⟩ | ⟨h1, p, h2, h3, h4⟩
  · have e : wdayP s = (s, false) := by unfold wdayP; rw [h1, h2]; rfl
    rw [e]
    by_cases hc : 5 < s.length ∧ s[3]? = some 44
    · rw [if_pos hc]
      have hm : plc wdaysL (s.take 3) < 0 := by
        rcases plc_cases wdaysL (s.take 3) with ⟨i, hi, _⟩ | ⟨_, e⟩
        · exfalso
          have hp : s.take 3 ∈ wdaysL := List.mem_of_getElem? hi
          have h0 := (wday_facts _ hp).1
          have hpre : isPreD (s.take 3) s = true := by unfold isPreD; rw [h0]; exact decide_eq_true rfl
          have hex : ∀ l : List Txt, (oneP l s).1 = 0 → ∀ q ∈ l, isPreD q s = false := by
            intro l
            induction l with
            | nil => intro _ q hq; cases hq
            | cons a l ih =>
              intro h q hq
              unfold oneP at h
              cases hpa : isPreD a s
              · rw [hpa] at h
                simp only [Bool.false_eq_true, if_false] at h
                rcases List.mem_cons.1 hq with rfl | hq
                · exact hpa
                · refine ih ?_ q hq
                  split at h
                  · assumption
                  · omega
              · rw [hpa] at h; simp at h
          rw [hex wdaysL h1 _ hp] at hpre
          cases hpre
        · omega
      rw [if_pos (.inl hm)]
      rcases ok_of s with ⟨p0, p1, p2, p3, r, rfl, h⟩ | hb
      · exfalso
        obtain ⟨_, h3⟩ := hc
        obtain ⟨⟨l1, l2, _⟩, hmon, _⟩ := h
        have hm3 : ∀ p ∈ monthsL, p.length = 3 ∧ (44 : UInt8) ∉ p := by decide
        obtain ⟨q1, q2⟩ := hm3 p1 hmon
        match p1, q1 with
        | [m0, m1, m2], _ =>
          match p0, l1, l2 with
          | [a], _, _ => simp at h3 q2; exact q2.2.1 h3.symm
          | [a, b], _, _ => simp at h3 q2; exact q2.1 h3.symm
      · exact hb
    · rw [if_neg hc, mailM_same]
  · have hp : p ∈ wdaysL := List.mem_of_getElem? h2
    obtain ⟨l3, a, ha, hda⟩ := wday_facts p hp
    have hs := isPre_split h3
    have hl : 3 ≤ s.length := by
      have := congrArg List.length hs
      rw [List.length_append] at this; omega
    have h0 : s[0]? = some a := by
      rw [hs, List.getElem?_append_left (by omega)]; exact ha
    have ht : s.take 3 = p := by
      have := of_decide_eq_true h3
      rw [l3] at this; exact this
    have e : wdayP s = wantsP [44, 32] (s.drop 3, false) := by unfold wdayP; rw [if_pos h1, h4, l3]
    have hpl : ¬ plc wdaysL (s.take 3) < 0 := by
      rcases plc_cases wdaysL (s.take 3) with ⟨i, hi, e⟩ | ⟨hn, _⟩
      · omega
      · rw [ht] at hn; exact absurd hp hn
    rw [e]
    by_cases hw : s[3]? = some 44 ∧ s[4]? = some 32
    · have ew : wantsP [44, 32] (s.drop 3, false) = (s.drop 5, false) := by
        have k4 := (List.getElem?_eq_some_iff.1 hw.2).1
        have : s.drop 3 = 44 :: 32 :: s.drop 5 := by
          obtain ⟨_, e3⟩ := List.getElem?_eq_some_iff.1 hw.1
          obtain ⟨_, e4⟩ := List.getElem?_eq_some_iff.1 hw.2
          rw [List.drop_eq_getElem_cons (show 3 < s.length by omega), e3, List.drop_eq_getElem_cons (show 3 + 1 < s.length by omega), e4]
        rw [this]
        simp [wantsP, eatS, isPreD]
      rw [ew]
      by_cases h5 : 5 < s.length
      · have hno : ¬ (plc wdaysL (s.take 3) < 0 ∨ s[4]? ≠ some 32) := by
          rintro (h | h)
          · exact hpl h
          · exact h hw.2
        rw [if_pos ⟨h5, hw.1⟩, if_neg hno, mailM_same]
      · rw [if_neg fun hh => h5 hh.1, mailM_same, letter_bad h0 hda, List.drop_of_length_le (by omega)]
        decide
    · have ew : (wantsP [44, 32] (s.drop 3, false)).2 = true := by
        unfold wantsP
        have : isPreD [44, 32] (s.drop 3) = false := by
          unfold isPreD
          refine decide_eq_false fun hh => hw ?_
          have g : ∀ j, j < 2 → (s.drop 3)[j]? = ([44, 32] : Txt)[j]? := fun j hj => by
            have := congrArg (fun l => l[j]?) hh
            simp only [List.getElem?_take] at this
            rw [if_pos (by exact hj)] at this
            exact this
          have g0 := g 0 (by decide)
          have g1 := g 1 (by decide)
          rw [List.getElem?_drop] at g0 g1
          exact ⟨g0, g1⟩
        rw [this]; rfl
      rw [mailT_bad ew]
      by_cases hc : 5 < s.length ∧ s[3]? = some 44
      · rw [if_pos hc, if_pos (.inr fun h4 => hw ⟨hc.2, h4⟩)]
      · rw [if_neg hc, mailM_same, letter_bad h0 hda]
end Go.Ez
