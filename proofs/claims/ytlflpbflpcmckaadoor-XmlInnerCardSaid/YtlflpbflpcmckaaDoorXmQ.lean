/-
  XML, plainly: what the reader's methods leave alone, and that they go on.
-/
import Derived.Test.YtlflpbflpcmckaaDoorXmP
namespace Go.Ez.XRd
open Go Go.Ez
set_option linter.unusedSimpArgs false
set_option linter.unusedVariables false
structure Ok (r : XRd) : Prop where
  lt : r.at_ ≤ r.s.length + 1
  le : r.e = 0 → r.at_ ≤ r.s.length
/-- what a method that makes no token does -/
structure Stp (r r' : XRd) : Prop where
  s : r'.s = r.s
  out : r'.out = r.out
  op : r'.op = r.op
  run : r'.run = r.run
  up : r.at_ ≤ r'.at_
  e : r.e ≠ 0 → r'.e = r.e
  ok : Ok r'
/-- it goes on, or fails -/
def Adv (r r' : XRd) : Prop := r'.e = 0 → r.at_ < r'.at_
structure DecOk (dec : Txt → Int × Nat) : Prop where
  pos : ∀ t, t ≠ [] → 1 ≤ (dec t).2
  le : ∀ t, t ≠ [] → (dec t).2 ≤ t.length
variable {r r' r'' : XRd} {n : Nat} {p : Txt} {dec : Txt → Int × Nat} {sgn : Int → Txt × Bool}
theorem Ok.of_le (h : r.at_ ≤ r.s.length) : Ok r := ⟨by omega, fun _ => h⟩
theorem Stp.refl (h : Ok r) : Stp r r := ⟨rfl, rfl, rfl, rfl, Nat.le_refl _, fun _ => rfl, h⟩
theorem Stp.trans (h : Stp r r') (h' : Stp r' r'') : Stp r r'' :=
  ⟨h'.s.trans h.s, h'.out.trans h.out, h'.op.trans h.op, h'.run.trans h.run, Nat.le_trans h.up h'.up, fun he => (h'.e (by rw [h.e he]; exact he)).trans (h.e he), h'.ok⟩
theorem Stp.e0 (h : Stp r r') (he : r'.e = 0) : r.e = 0 := Classical.byContradiction fun hn => hn ((h.e hn).symm.trans he)
theorem Stp.adv (h : Stp r r') (h' : Adv r' r'') : Adv r r'' := fun he => Nat.lt_of_le_of_lt h.up (h' he)
theorem Adv.stp (h : Adv r r') (h' : Stp r' r'') : Adv r r'' := fun he => Nat.lt_of_lt_of_le (h (h'.e0 he)) h'.up
theorem fail_ne {c : Int} (hc : c ≠ 0) : (r.fail c).e ≠ 0 := by unfold fail; split <;> simp_all
theorem fail_at {c : Int} : (r.fail c).at_ = r.at_ := by unfold fail; split <;> rfl
theorem fail_s {c : Int} : (r.fail c).s = r.s := by unfold fail; split <;> rfl
theorem stp_fail {c : Int} (hc : c ≠ 0) (h : r.at_ ≤ r.s.length + 1) : Stp r (r.fail c) := by
  have h1 := fail_ne (r := r) hc
  refine ⟨fail_s, ?_, ?_, ?_, by rw [fail_at]; exact Nat.le_refl _, fun he => ?_, ⟨by rw [fail_at, fail_s]; exact h, fun he => absurd he h1⟩⟩
  · unfold fail; split <;> rfl
  · unfold fail; split <;> rfl
  · unfold fail; split <;> rfl
  · unfold fail; rw [if_neg he]
theorem stp_failIf {c : Int} {b : Bool} (hc : c ≠ 0) (h : Ok r) : Stp r (r.failIf b c) := by
  unfold failIf; split
  · exact stp_fail hc h.lt
  · exact Stp.refl h
theorem failIf_e {c : Int} {b : Bool} (hc : c ≠ 0) (h : (r.failIf b c).e = 0) : b = false ∧ r.failIf b c = r := by
  unfold failIf at h ⊢
  cases b
  · exact ⟨rfl, rfl⟩
  · exact absurd h (fail_ne hc)
theorem failIf_at {c : Int} {b : Bool} : (r.failIf b c).at_ = r.at_ := by unfold failIf; split; exact fail_at; rfl
theorem failIf_s {c : Int} {b : Bool} : (r.failIf b c).s = r.s := by unfold failIf; split; exact fail_s; rfl
theorem see_some {c : UInt8} (h : r.s[r.at_ + n]? = some c) : r.see n = (c, r) := by unfold see; rw [h]
theorem see_none (h : r.s[r.at_ + n]? = none) : r.see n = (0, r.fail 2) := by unfold see; rw [h]
theorem see_at : (r.see n).2.at_ = r.at_ := by unfold see; split; rfl; exact fail_at
theorem see_s : (r.see n).2.s = r.s := by unfold see; split; rfl; exact fail_s
theorem stp_see (h : Ok r) : Stp r (r.see n).2 := by
  unfold see; split
  · exact Stp.refl h
  · exact stp_fail (by decide) h.lt
theorem see_e (h : (r.see n).2.e = 0) : ∃ c, r.s[r.at_ + n]? = some c ∧ r.see n = (c, r) := by
  cases hx : r.s[r.at_ + n]? with
  | some c => exact ⟨c, rfl, see_some hx⟩
  | none => rw [see_none hx] at h; exact absurd h (fail_ne (by decide))
theorem see_c (h : (r.see n).1 ≠ 0) : ∃ c, r.s[r.at_ + n]? = some c ∧ r.see n = (c, r) := by
  cases hx : r.s[r.at_ + n]? with
  | some c => exact ⟨c, rfl, see_some hx⟩
  | none => rw [see_none hx] at h; exact absurd rfl h
theorem lt_of_at {c : UInt8} (h : r.s[r.at_ + n]? = some c) : r.at_ + n < r.s.length := (List.getElem?_eq_some_iff.1 h).1
theorem stp_on (h : r.at_ + n ≤ r.s.length) : Stp r (r.on n) := ⟨rfl, rfl, rfl, rfl, Nat.le_add_right _ _, fun _ => rfl, .of_le h⟩
theorem stp_on1 (h : r.at_ ≤ r.s.length) (he : r.e ≠ 0) : Stp r (r.on 1) := ⟨rfl, rfl, rfl, rfl, Nat.le_add_right _ _, fun _ => rfl, ⟨Nat.succ_le_succ h, fun h => absurd h he⟩⟩
theorem wants_no {p : Txt} (he : r.e ≠ 0) : wants p r = r := by cases p; rfl; unfold wants; rw [if_neg he]
theorem stp_wants : ∀ {p : Txt} {r : XRd}, Ok r → Stp r (wants p r)
  | [], r, h => Stp.refl h
  | c :: p, r, h => by
    unfold wants
    split
    · rename_i he
      have h1 := stp_see (n := 0) h
      generalize hb : decide ((r.see 0).2.e = 0 ∧ (r.see 0).1 ≠ c) = b
      have h2 := h1.trans (stp_failIf (b := b) (c := 4) (by decide) h1.ok)
      have hat : ((r.see 0).2.failIf b 4).at_ = r.at_ := by rw [failIf_at, see_at]
      have h3 : Stp ((r.see 0).2.failIf b 4) (((r.see 0).2.failIf b 4).on 1) := by
        by_cases hq : ((r.see 0).2.failIf b 4).e = 0
        · have h4 := (stp_failIf (b := b) (c := 4) (by decide) h1.ok).e0 hq
          obtain ⟨x, hx, _⟩ := see_e h4
          refine stp_on ?_
          rw [hat, failIf_s, see_s]
          exact lt_of_at hx
        · refine stp_on1 ?_ hq
          rw [hat, failIf_s, see_s]
          exact h.le he
      exact (h2.trans h3).trans (stp_wants h3.ok)
    · exact Stp.refl h
theorem adv_wants {c : UInt8} (h : Ok r) : Adv r (wants (c :: p) r) := fun he => by
  have h0 := (stp_wants h).e0 he
  have e1 : wants (c :: p) r = wants p (((r.see 0).2.failIf (decide ((r.see 0).2.e = 0 ∧ (r.see 0).1 ≠ c)) 4).on 1) := by
    conv => lhs; unfold wants
    rw [if_pos h0]
  rw [e1] at he ⊢
  generalize decide ((r.see 0).2.e = 0 ∧ (r.see 0).1 ≠ c) = b at *
  by_cases hq : ((r.see 0).2.failIf b 4).e = 0
  · have h1 := stp_see (n := 0) h
    have h4 := (stp_failIf (b := b) (c := 4) (by decide) h1.ok).e0 hq
    obtain ⟨x, hx, _⟩ := see_e h4
    have hok : Ok (((r.see 0).2.failIf b 4).on 1) := .of_le (by show ((r.see 0).2.failIf b 4).at_ + 1 ≤ ((r.see 0).2.failIf b 4).s.length; rw [failIf_at, see_at, failIf_s, see_s]; exact lt_of_at hx)
    have := (stp_wants (p := p) hok).up
    have e2 : (((r.see 0).2.failIf b 4).on 1).at_ = r.at_ + 1 := by show ((r.see 0).2.failIf b 4).at_ + 1 = _; rw [failIf_at, see_at]
    omega
  · rw [wants_no (r := ((r.see 0).2.failIf b 4).on 1) hq] at he
    exact absurd he hq
theorem tw_le (f : UInt8 → Bool) (l : Txt) : (l.takeWhile f).length ≤ l.length := by
  have := (List.takeWhile_sublist f (l := l)).length_le
  exact this
theorem rest_len : r.rest.length = r.s.length - r.at_ := by unfold rest; rw [List.length_drop]
theorem stp_pass (f : UInt8 → Bool) (h : Ok r) : Stp r (r.on (r.rest.takeWhile f).length) := by
  have h1 := tw_le f r.rest
  rw [rest_len] at h1
  have h2 := h.lt
  refine ⟨rfl, rfl, rfl, rfl, Nat.le_add_right _ _, fun _ => rfl, ⟨?_, fun he => ?_⟩⟩
  · show r.at_ + _ ≤ r.s.length + 1; omega
  · have := h.le he
    show r.at_ + _ ≤ r.s.length; omega
theorem stp_blanks (h : Ok r) : Stp r r.blanks.2 := stp_pass isBl h
theorem stp_sign (hd : DecOk dec) (h : Ok r) : Stp r (r.sign dec).2 := by
  unfold sign
  split
  · exact stp_see h
  · rename_i h1
    obtain ⟨c, hc, _⟩ := see_e (Classical.not_not.1 h1)
    have hlt := lt_of_at hc
    split
    · exact stp_fail (by decide) h.lt
    · have hne : r.rest ≠ [] := fun e => by have := congrArg List.length e; rw [rest_len] at this; simp at this; omega
      have := hd.le _ hne
      rw [rest_len] at this
      exact stp_on (by omega)
theorem adv_sign (hd : DecOk dec) : Adv r (r.sign dec).2 := by
  unfold sign
  intro he
  split at he
  · exact absurd he ‹_›
  · rename_i h1
    obtain ⟨c, hc, _⟩ := see_e (Classical.not_not.1 h1)
    have hlt := lt_of_at hc
    split at he
    · exact absurd he (fail_ne (by decide))
    · rename_i h2
      rw [if_neg h1, if_neg h2]
      have hne : r.rest ≠ [] := fun e => by have := congrArg List.length e; rw [rest_len] at this; simp at this; omega
      have := hd.pos _ hne
      show r.at_ < r.at_ + _
      omega
theorem signs_no {f : Nat} (he : r.e ≠ 0) : signs dec p f r = r := by cases f; rfl; unfold signs; rw [if_neg (fun h => he h.1)]
theorem stp_signs (hd : DecOk dec) : ∀ {f : Nat} {r : XRd}, Ok r → Stp r (signs dec p f r)
  | 0, r, h => Stp.refl h
  | f + 1, r, h => by
    unfold signs
    split
    · exact (stp_sign hd h).trans (stp_signs hd (stp_sign hd h).ok)
    · exact Stp.refl h
theorem signs_end (hd : DecOk dec) : ∀ {f : Nat} {r : XRd}, Ok r → r.s.length < f + r.at_ → (signs dec p f r).e = 0 → isPre p (signs dec p f r).rest = true
  | 0, r, h, hf, he => by
    have := h.le he
    omega
  | f + 1, r, h, hf, he => by
    unfold signs at he ⊢
    split at he
    · rename_i hc
      rw [if_pos hc]
      have h1 := stp_sign (dec := dec) hd h
      have h2 := (stp_signs (p := p) (f := f) hd h1.ok).e0 he
      have h3 := adv_sign (r := r) hd h2
      refine signs_end hd h1.ok ?_ he
      rw [h1.s]; omega
    · rename_i hc
      rw [if_neg hc]
      cases hp : isPre p r.rest
      · exact absurd ⟨he, hp⟩ hc
      · rfl
theorem isPre_len {s : Txt} (h : isPre p s = true) : p.length ≤ s.length := by
  have := congrArg List.length (of_decide_eq_true h)
  rw [List.length_take] at this
  omega
theorem stp_til (hd : DecOk dec) (h : Ok r) : Stp r (r.til dec p).2 := by
  have h1 := stp_signs (p := p) (f := r.s.length + 2) hd h
  unfold til
  split
  · exact h1
  · rename_i he
    have h2 := isPre_len (signs_end (p := p) (f := r.s.length + 2) hd h (by omega) (Classical.not_not.1 he))
    rw [rest_len] at h2
    have h3 := h1.ok.le (Classical.not_not.1 he)
    exact h1.trans (stp_on (by omega))
/-- a name's place: within the text -/
theorem name_le (h : r.at_ ≤ r.s.length) : r.nameOf.2.at_ ≤ r.s.length := by
  have h1 := tw_le goes r.rest
  rw [rest_len] at h1
  show (XRd.failIf _ _ _).at_ + _ ≤ _
  rw [failIf_at, see_at]
  omega
theorem stp_name (h : r.at_ ≤ r.s.length) : Stp r r.nameOf.2 := by
  have h1 := stp_see (n := 0) (Ok.of_le h)
  have h2 := h1.trans (stp_failIf (b := decide ((r.see 0).2.e = 0) && !begs (r.see 0).1) (c := 4) (by decide) h1.ok)
  have h3 := tw_le goes r.rest
  rw [rest_len] at h3
  refine h2.trans (stp_on ?_)
  rw [failIf_at, see_at, failIf_s, see_s]
  omega
theorem full_le (h : r.at_ ≤ r.s.length) : r.full.2.at_ ≤ r.s.length := by
  have h1 := name_le h
  have h2 := stp_name h
  unfold full
  dsimp only
  split
  · exact h1
  · rename_i hc
    have hs : r.nameOf.2.s[r.nameOf.2.at_ + 0]? = some 58 := Classical.byContradiction fun hn => hc (.inr hn)
    have h3 := lt_of_at hs
    have h4 : (r.nameOf.2.on 1).at_ ≤ (r.nameOf.2.on 1).s.length := by show r.nameOf.2.at_ + 1 ≤ r.nameOf.2.s.length; omega
    have h5 := name_le h4
    have : (r.nameOf.2.on 1).s.length = r.s.length := by show r.nameOf.2.s.length = _; rw [h2.s]
    show (r.nameOf.2.on 1).nameOf.2.at_ ≤ _
    omega
theorem stp_full (h : r.at_ ≤ r.s.length) : Stp r r.full.2 := by
  have h2 := stp_name h
  unfold full
  dsimp only
  split
  · exact h2
  · rename_i hc
    have hs : r.nameOf.2.s[r.nameOf.2.at_ + 0]? = some 58 := Classical.byContradiction fun hn => hc (.inr hn)
    have h3 := lt_of_at hs
    have h4 := stp_on (r := r.nameOf.2) (n := 1) (by omega)
    exact h2.trans (h4.trans (stp_name (by show r.nameOf.2.at_ + 1 ≤ r.nameOf.2.s.length; omega)))
theorem digitsGo_le {base most fr : Nat} : ∀ {f : Nat} {r : XRd}, r.at_ ≤ r.s.length → Stp r (digitsGo base most fr f r) ∧ (digitsGo base most fr f r).at_ ≤ r.s.length
  | 0, r, h => ⟨Stp.refl (.of_le h), h⟩
  | f + 1, r, h => by
    unfold digitsGo
    split
    · split
      · exact ⟨stp_fail (by decide) (by omega), by rw [fail_at]; exact h⟩
      · rename_i c hc
        split
        · exact ⟨Stp.refl (.of_le h), h⟩
        · split
          · exact ⟨stp_fail (by decide) (by omega), by rw [fail_at]; exact h⟩
          · have h1 := lt_of_at (n := 0) hc
            have h2 := stp_on (r := r) (n := 1) (by omega)
            have h3 : (r.on 1).at_ ≤ (r.on 1).s.length := by show r.at_ + 1 ≤ r.s.length; omega
            obtain ⟨h4, h5⟩ := digitsGo_le (base := base) (most := most) (fr := fr) (f := f) h3
            exact ⟨h2.trans h4, h5⟩
    · exact ⟨Stp.refl (.of_le h), h⟩
/-- at its end a ; stands, or it failed -/
theorem digitsGo_end {base most fr : Nat} : ∀ {f : Nat} {r : XRd}, r.at_ ≤ fr + most → fr + most < f + r.at_ → (digitsGo base most fr f r).e = 0 → (digitsGo base most fr f r).s[(digitsGo base most fr f r).at_]? = some 59
  | 0, r, h1, hf, he => by omega
  | f + 1, r, h1, hf, he => by
    unfold digitsGo at he ⊢
    split at he
    · rename_i he0
      rw [if_pos he0]
      split at he
      · exact absurd he (fail_ne (by decide))
      · rename_i c hc
        split at he
        · rename_i h59
          rw [if_pos h59]
          subst h59
          exact hc
        · rename_i h59
          split at he
          · exact absurd he (fail_ne (by decide))
          · rename_i hd
            rw [if_neg h59, if_neg hd]
            have hm : ¬ (most ≤ r.at_ - fr) := fun hm => hd (by simp [hm])
            exact digitsGo_end (by show r.at_ + 1 ≤ _; omega) (by show _ < f + (r.at_ + 1); omega) he
    · rename_i he0
      exact absurd he he0
theorem stp_digits {base most : Nat} (h : r.at_ ≤ r.s.length) : Stp r (digits base most r).2 := by
  obtain ⟨h1, h2⟩ := digitsGo_le (base := base) (most := most) (fr := r.at_) (f := most + 2) h
  have h3 := @digitsGo_end base most r.at_ (most + 2) r (by omega) (by omega)
  unfold digits
  dsimp only
  generalize digitsGo base most r.at_ (most + 2) r = q at *
  generalize decide ((r.s.drop r.at_).take (q.at_ - r.at_) = []) = b
  refine (h1.trans (stp_failIf (b := b) (c := 4) (by decide) h1.ok)).trans ?_
  by_cases he : (q.failIf b 4).e = 0
  · obtain ⟨_, e2⟩ := failIf_e (by decide) he
    rw [e2] at he ⊢
    have := lt_of_at (r := q) (n := 0) (h3 he)
    exact stp_on (by omega)
  · refine stp_on1 ?_ he
    rw [failIf_at, failIf_s, h1.s]; exact h2
theorem stp_number (h : r.at_ ≤ r.s.length) : Stp r (number sgn r).2 := by
  have h1 := stp_see (n := 0) (Ok.of_le h)
  unfold number
  dsimp only
  have h2 : Stp r (if (r.see 0).1 = 120 then digits 16 6 ((r.see 0).2.on 1) else digits 10 7 (r.see 0).2).2 := by
    split
    · rename_i hc
      obtain ⟨c, hs, hx⟩ := see_c (r := r) (n := 0) (by rw [hc]; decide)
      have := lt_of_at hs
      rw [hx]
      exact (stp_on (r := r) (n := 1) (by omega)).trans (stp_digits (r := r.on 1) (by show r.at_ + 1 ≤ r.s.length; omega))
    · exact h1.trans (stp_digits (by rw [see_at, see_s]; exact h))
  exact h2.trans (stp_failIf (by decide) h2.ok)
theorem stp_refGo : ∀ {l : List (Txt × Txt)} {b : Bool} {r : XRd}, (∀ n ∈ l, n.1 ≠ []) → r.at_ ≤ r.s.length → Stp r (refGo r.rest l b r).2
  | [], b, r, _, h => by
    unfold refGo
    have h1 := stp_failIf (b := b) (c := 2) (by decide) (Ok.of_le h)
    exact h1.trans (stp_fail (by decide) h1.ok.lt)
  | n :: l, b, r, hn, h => by
    unfold refGo
    split
    · rename_i hp
      have := isPre_len hp
      rw [rest_len] at this
      exact stp_on (by omega)
    · exact stp_refGo (fun m hm => hn m (List.mem_cons_of_mem _ hm)) h
theorem refNames_ne : ∀ n ∈ refNames, n.1 ≠ [] := by decide
theorem stp_reference (h : r.at_ ≤ r.s.length) : Stp r (reference sgn r).2 := by
  unfold reference
  split
  · rename_i hp
    have := isPre_len hp
    rw [rest_len] at this
    have h1 : ([35] : Txt).length = 1 := rfl
    have hle : r.at_ + 1 ≤ r.s.length := by omega
    exact (stp_on (r := r) (n := 1) hle).trans (stp_number (r := r.on 1) hle)
  · exact stp_refGo refNames_ne h
theorem stp_part (hd : DecOk dec) (h : Ok r) : Stp r (part dec sgn r).2 := by
  unfold part
  split
  · rename_i hc
    obtain ⟨c, hs, hx⟩ := see_c (r := r) (n := 0) (by rw [hc]; decide)
    have := lt_of_at hs
    have hle : r.at_ + 1 ≤ r.s.length := by omega
    rw [hx]
    exact (stp_on (r := r) (n := 1) hle).trans (stp_reference (r := r.on 1) hle)
  · exact (stp_see h).trans (stp_sign hd (stp_see h).ok)
theorem adv_part (hd : DecOk dec) (h : Ok r) : Adv r (part dec sgn r).2 := by
  unfold part
  split
  · rename_i hc
    obtain ⟨c, hs, hx⟩ := see_c (r := r) (n := 0) (by rw [hc]; decide)
    have := lt_of_at hs
    have hle : r.at_ + 1 ≤ r.s.length := by omega
    rw [hx]
    have h2 := (stp_reference (sgn := sgn) (r := r.on 1) hle).up
    intro _
    show r.at_ < _
    have : (r.on 1).at_ = r.at_ + 1 := rfl
    dsimp only
    omega
  · exact (stp_see h).adv (adv_sign hd)
theorem stp_valGo (hd : DecOk dec) {q : UInt8} : ∀ {f : Nat} {b : Txt} {r : XRd}, Ok r → Stp r (valGo dec sgn q f b r).2
  | 0, b, r, h => Stp.refl h
  | f + 1, b, r, h => by
    unfold valGo
    split
    · exact Stp.refl h
    · have h1 := stp_see (n := 0) h
      dsimp only
      split
      · exact h1.trans (stp_valGo hd h1.ok)
      · rename_i he
        obtain ⟨c, hs, hx⟩ := see_e (Classical.not_not.1 he)
        have := lt_of_at hs
        have hle : r.at_ + 1 ≤ r.s.length := by omega
        rw [hx]
        dsimp only
        split
        · have h2 := stp_on (r := r) (n := 1) hle
          exact h2.trans (stp_failIf (by decide) h2.ok)
        · split
          · have h2 := stp_fail (r := r) (c := 4) (by decide) h.lt
            exact h2.trans (stp_valGo hd h2.ok)
          · have h2 := stp_part (sgn := sgn) hd h
            exact h2.trans (stp_valGo hd h2.ok)
theorem stp_value (hd : DecOk dec) (h : r.at_ ≤ r.s.length) : Stp r (value dec sgn r).2 := by
  have h1 := stp_see (n := 0) (Ok.of_le h)
  unfold value
  dsimp only
  generalize decide ((r.see 0).2.e = 0 ∧ (r.see 0).1 ≠ 34 ∧ (r.see 0).1 ≠ 39) = b
  have h2 := h1.trans (stp_failIf (b := b) (c := 4) (by decide) h1.ok)
  have h3 : Stp ((r.see 0).2.failIf b 4) (((r.see 0).2.failIf b 4).on 1) := by
    by_cases he : ((r.see 0).2.failIf b 4).e = 0
    · obtain ⟨c, hs, hx⟩ := see_e ((stp_failIf (b := b) (c := 4) (by decide) h1.ok).e0 he)
      have := lt_of_at hs
      refine stp_on ?_
      rw [failIf_at, see_at, failIf_s, see_s]; omega
    · refine stp_on1 ?_ he
      rw [failIf_at, see_at, failIf_s, see_s]; exact h
  exact (h2.trans h3).trans (stp_valGo hd h3.ok)
theorem stp_attr (hd : DecOk dec) {l : List XPr} (h : r.at_ ≤ r.s.length) : Stp r (attr dec sgn l r).2 ∧ Adv r (attr dec sgn l r).2 := by
  have h1 := stp_full h
  unfold attr
  dsimp only
  generalize (decide (r.full.2.e = 0) && l.any fun p => decide (p.pre = r.full.1.1 ∧ p.name = r.full.1.2)) = b
  have h2 := h1.trans (stp_failIf (b := b) (c := 4) (by decide) h1.ok)
  have h3 := h2.trans (stp_blanks h2.ok)
  have h4 := h3.trans (stp_wants (p := [61]) h3.ok)
  have h5 := h4.trans (stp_blanks h4.ok)
  have ha : Adv r (wants [61] (r.full.2.failIf b 4).blanks.2).blanks.2 := Adv.stp (h3.adv (adv_wants h3.ok)) (stp_blanks h4.ok)
  split
  · rename_i he
    have h6 := stp_value (sgn := sgn) hd (h5.ok.le he)
    exact ⟨h5.trans h6, ha.stp h6⟩
  · exact ⟨h5, ha⟩
theorem stp_attrsGo (hd : DecOk dec) : ∀ {f : Nat} {l : List XPr} {r : XRd}, Ok r → Stp r (attrsGo dec sgn f l r).2
  | 0, l, r, h => Stp.refl h
  | f + 1, l, r, h => by
    unfold attrsGo
    split
    · exact Stp.refl h
    · have h1 := stp_blanks h
      have h2 := h1.trans (stp_see (n := 0) h1.ok)
      dsimp only
      split
      · exact h2
      · rename_i hc
        have he : (r.blanks.2.see 0).2.e = 0 := Classical.byContradiction fun hn => hc (.inl hn)
        split
        · have h3 := h2.trans (stp_fail (c := 4) (by decide) h2.ok.lt)
          exact h3.trans (stp_attrsGo hd h3.ok)
        · have h3 := h2.trans (stp_attr (sgn := sgn) (l := l) hd (h2.ok.le he)).1
          exact h3.trans (stp_attrsGo hd h3.ok)
theorem stp_attrs (hd : DecOk dec) (h : Ok r) : Stp r (attrs dec sgn r).2 := stp_attrsGo hd h
theorem stp_comment (hd : DecOk dec) (h : Ok r) : Stp r (comment dec r) := by
  unfold comment
  have h1 := stp_wants (p := [60, 33, 45, 45]) h
  have h2 := h1.trans (stp_til (p := [45, 45]) hd h1.ok)
  exact h2.trans (stp_wants h2.ok)
theorem adv_comment (hd : DecOk dec) (h : Ok r) : Adv r (comment dec r) := by
  unfold comment
  have h1 := stp_wants (p := [60, 33, 45, 45]) h
  have h2 := stp_til (p := [45, 45]) hd h1.ok
  exact (adv_wants h).stp (h2.trans (stp_wants h2.ok))
theorem stp_misc (hd : DecOk dec) : ∀ {f : Nat} {r : XRd}, Ok r → Stp r (misc dec f r)
  | 0, r, h => Stp.refl h
  | f + 1, r, h => by
    unfold misc
    split
    · exact Stp.refl h
    · have h1 := stp_blanks h
      split
      · exact h1
      · have h2 := h1.trans (stp_comment hd h1.ok)
        exact h2.trans (stp_misc hd h2.ok)
theorem stp_front (hd : DecOk dec) (h : r.at_ ≤ r.s.length) : Stp r (front dec r) := by
  unfold front
  have h1 : Stp r (if isPre [239, 187, 191] r.rest = true then r.on 3 else r) := by
    split
    · rename_i hp
      have := isPre_len hp
      rw [rest_len] at this
      have h1 : ([239, 187, 191] : Txt).length = 3 := rfl
      exact stp_on (by omega)
    · exact Stp.refl (.of_le h)
  dsimp only
  generalize (if isPre [239, 187, 191] r.rest = true then r.on 3 else r) = q at *
  have h2 : Stp r (if isPre [60, 63] q.rest = true then (til dec [63, 62] (if ((wants [60, 63, 120, 109, 108] q).see 0).2.e = 0 then ((wants [60, 63, 120, 109, 108] q).see 0).2.blanks.2.failIf (!((wants [60, 63, 120, 109, 108] q).see 0).2.blanks.1) 4 else ((wants [60, 63, 120, 109, 108] q).see 0).2)).2 else q) := by
    split
    · have h2 := h1.trans (stp_wants (p := [60, 63, 120, 109, 108]) h1.ok)
      have h3 := h2.trans (stp_see (n := 0) h2.ok)
      generalize ((wants [60, 63, 120, 109, 108] q).see 0).2 = q at *
      split
      · have h4 := h3.trans (stp_blanks h3.ok)
        have h5 := h4.trans (stp_failIf (b := !q.blanks.1) (c := 4) (by decide) h4.ok)
        exact h5.trans (stp_til hd h5.ok)
      · exact h3.trans (stp_til hd h3.ok)
    · exact h1
  exact h2.trans (stp_misc hd h2.ok)
end Go.Ez.XRd
