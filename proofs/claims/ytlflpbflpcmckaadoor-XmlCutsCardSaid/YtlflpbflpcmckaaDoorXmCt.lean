/-
  XML, plainly: what is read of a document does not hang on what stands around it.
-/
import Derived.Test.YtlflpbflpcmckaaDoorXmPn
namespace Go.Proofs.YtlflpbflpcmckaaDoor
open Go Go.Ez Go.RowKit Go.Lib
set_option linter.unusedSimpArgs false
set_option linter.unusedVariables false
/-- r' stands as r does, in a text with p ahead and m behind -/
structure Sim (p m : Txt) (r r' : XRd) : Prop where
  s : r'.s = p ++ r.s ++ m
  at_ : r'.at_ = p.length + r.at_
  e : r'.e = r.e
  out : r'.out = r.out
  op : r'.op = r.op
  run : r'.run = r.run
section
variable {p m x : Txt} {r r' : XRd} {c : UInt8} {n : Nat}
theorem Sim.get (h : Sim p m r r') (hc : r.s[r.at_ + n]? = some c) : r'.s[r'.at_ + n]? = some c := by
  rw [h.s, h.at_]
  have hl := (List.getElem?_eq_some_iff.1 hc).1
  rw [List.append_assoc, List.getElem?_append_right (by omega), show p.length + r.at_ + n - p.length = r.at_ + n by omega, List.getElem?_append_left hl]
  exact hc
theorem Sim.rest (h : Sim p m r r') (hl : r.at_ ≤ r.s.length) : r'.rest = r.rest ++ m := by
  unfold XRd.rest
  rw [h.s, h.at_, List.append_assoc]
  rw [show (p ++ (r.s ++ m)).drop (p.length + r.at_) = (r.s ++ m).drop r.at_ by rw [← List.drop_drop, List.drop_left]]
  rw [List.drop_append_of_le_length hl]
theorem Sim.slen (h : Sim p m r r') : r.s.length ≤ r'.s.length := by rw [h.s]; simp; omega
theorem Sim.fail {c : Int} (h : Sim p m r r') : Sim p m (r.fail c) (r'.fail c) := by
  unfold XRd.fail
  rw [h.e]
  split
  · exact ⟨h.s, h.at_, rfl, h.out, h.op, h.run⟩
  · exact h
theorem Sim.failIf {c : Int} {b : Bool} (h : Sim p m r r') : Sim p m (r.failIf b c) (r'.failIf b c) := by
  unfold XRd.failIf
  split
  · exact h.fail
  · exact h
theorem Sim.on (h : Sim p m r r') : Sim p m (r.on n) (r'.on n) := ⟨h.s, by show r'.at_ + n = p.length + (r.at_ + n); rw [h.at_]; omega, h.e, h.out, h.op, h.run⟩
theorem Sim.see (h : Sim p m r r') (hc : r.s[r.at_ + n]? = some c) : r.see n = (c, r) ∧ r'.see n = (c, r') := ⟨XRd.see_some hc, XRd.see_some (h.get hc)⟩
theorem Sim.wants : ∀ {x : Txt} {r r' : XRd}, Sim p m r r' → XRd.Ok r → (XRd.wants x r).e = 0 → Sim p m (XRd.wants x r) (XRd.wants x r')
  | [], r, r', h, _, _ => h
  | c :: x, r, r', h, hok, he => by
    have h0 := (XRd.stp_wants hok).e0 he
    unfold XRd.wants at he ⊢
    rw [if_pos h0] at he ⊢
    rw [if_pos (by rw [h.e]; exact h0)]
    have h1 := XRd.stp_see (n := 0) hok
    generalize hb : decide ((r.see 0).2.e = 0 ∧ (r.see 0).1 ≠ c) = b at *
    have hok2 := (h1.trans (XRd.stp_failIf (b := b) (c := 4) (by decide) h1.ok)).ok
    have hq : ((r.see 0).2.failIf b 4).e = 0 := Classical.byContradiction fun hn => by
      rw [XRd.wants_no (r := ((r.see 0).2.failIf b 4).on 1) hn] at he
      exact hn he
    obtain ⟨d, hd, hde⟩ := XRd.see_e ((XRd.stp_failIf (b := b) (c := 4) (by decide) h1.ok).e0 hq)
    obtain ⟨e1, e2⟩ := h.see hd
    rw [e1] at he hb ⊢
    rw [e2]
    dsimp only at he hb ⊢
    rw [show decide (r'.e = 0 ∧ d ≠ c) = b by rw [← hb, h.e]]
    have hlt := XRd.lt_of_at hd
    refine Sim.wants (h.failIf.on) ?_ he
    exact .of_le (by show (r.failIf b 4).at_ + 1 ≤ (r.failIf b 4).s.length; rw [XRd.failIf_at, XRd.failIf_s]; omega)
theorem tw_short {f : UInt8 → Bool} : ∀ {a : Txt}, (a.takeWhile f).length < a.length → (a ++ m).takeWhile f = a.takeWhile f
  | [], h => by simp at h
  | c :: a, h => by
    rw [List.cons_append, List.takeWhile_cons, List.takeWhile_cons]
    cases hc : f c with
    | false => rfl
    | true =>
      rw [List.takeWhile_cons, hc] at h
      simp only [if_true, List.length_cons] at h ⊢
      rw [tw_short (a := a) (by omega)]
theorem Sim.blanks (h : Sim p m r r') (hl : r.at_ ≤ r.s.length) (hs : r.blanks.2.at_ < r.s.length) : r'.blanks.1 = r.blanks.1 ∧ Sim p m r.blanks.2 r'.blanks.2 := by
  unfold XRd.blanks at hs ⊢
  have hs' : r.at_ + (r.rest.takeWhile XRd.isBl).length < r.s.length := hs
  have e : r'.rest.takeWhile XRd.isBl = r.rest.takeWhile XRd.isBl := by
    rw [h.rest hl]
    refine tw_short ?_
    rw [XRd.rest_len]; omega
  rw [e]
  exact ⟨rfl, h.on⟩
theorem Sim.sign (h : Sim p m r r') (he : (r.sign decX).2.e = 0) : (r'.sign decX).1 = (r.sign decX).1 ∧ Sim p m (r.sign decX).2 (r'.sign decX).2 := by
  unfold XRd.sign at he ⊢
  split at he
  · exact absurd he ‹_›
  rename_i h1
  obtain ⟨c, hc, _⟩ := XRd.see_e (Classical.not_not.1 h1)
  obtain ⟨e1, e2⟩ := h.see hc
  rw [e1] at h1
  rw [e1, e2]
  dsimp only
  have hlt := XRd.lt_of_at hc
  split at he
  · exact absurd he (XRd.fail_ne (by decide))
  rename_i h2
  have hne : r.rest ≠ [] := fun e => by have := congrArg List.length e; rw [XRd.rest_len] at this; simp at this; omega
  have hg : ¬ badL r.rest := by
    rintro ⟨a, b⟩
    refine h2 (.inr ⟨?_, ?_⟩)
    · show ((decodeL r.rest).1 : Int) = 65533
      rw [a]; rfl
    · show (decodeL r.rest).2 < 2
      omega
  have hdec : decX r'.rest = decX r.rest := by
    unfold decX
    rw [h.rest (by omega)]
    have hst : r.rest ++ m = r.rest.take (decodeL r.rest).2 ++ (r.rest.drop (decodeL r.rest).2 ++ m) := by rw [← List.append_assoc, List.take_append_drop]
    rw [hst, decode_prefix hne hg]
  have h1' : ¬ r'.e ≠ 0 := by rw [h.e]; exact h1
  have h1'' : ¬ r.e ≠ 0 := h1
  rw [if_neg h1', if_neg h1'', hdec, if_neg h2, if_neg h2]
  have hle := decX_ok.le _ hne
  refine ⟨?_, h.on⟩
  dsimp only
  rw [h.rest (by omega), List.take_append_of_le_length hle]
theorem isPre_app {e a : Txt} (hl : e.length ≤ a.length) : XRd.isPre e (a ++ m) = XRd.isPre e a := by
  unfold XRd.isPre
  rw [List.take_append_of_le_length hl]
theorem Sim.signs {e : Txt} : ∀ {f f' : Nat} {r r' : XRd}, Sim p m r r' → XRd.Ok r → f ≤ f' → (XRd.signs decX e f r).e = 0 → XRd.isPre e (XRd.signs decX e f r).rest = true → Sim p m (XRd.signs decX e f r) (XRd.signs decX e f' r')
  | f, f', r, r', h, hok, hf, he, hp => by
    have hstp := XRd.stp_signs (p := e) (f := f) decX_ok hok
    have he0 := hstp.e0 he
    have hle := hok.le he0
    have hpl := XRd.isPre_len hp
    rw [XRd.rest_len, hstp.s] at hpl
    have hup := hstp.up
    have hpre : XRd.isPre e r'.rest = XRd.isPre e r.rest := by
      rw [h.rest hle]
      exact isPre_app (by rw [XRd.rest_len]; omega)
    have stop : XRd.isPre e r.rest = true → XRd.signs decX e f r = r ∧ XRd.signs decX e f' r' = r' := fun ht => by
      refine ⟨?_, ?_⟩
      · cases f with
        | zero => rfl
        | succ f => unfold XRd.signs; rw [if_neg (fun hx => by rw [ht] at hx; cases hx.2)]
      · cases f' with
        | zero => rfl
        | succ f' => unfold XRd.signs; rw [if_neg (fun hx => by rw [hpre, ht] at hx; cases hx.2)]
    cases ht : XRd.isPre e r.rest with
    | true =>
      obtain ⟨e1, e2⟩ := stop ht
      rw [e1, e2]; exact h
    | false =>
      cases f with
      | zero =>
        have : XRd.isPre e r.rest = true := hp
        rw [ht] at this; cases this
      | succ f =>
        obtain ⟨f', rfl⟩ : ∃ g, f' = g + 1 := ⟨f' - 1, by omega⟩
        unfold XRd.signs at he hp ⊢
        rw [if_pos ⟨he0, ht⟩] at he hp ⊢
        rw [if_pos ⟨by rw [h.e]; exact he0, by rw [hpre]; exact ht⟩]
        have h1 := XRd.stp_sign decX_ok hok
        have h2 := (XRd.stp_signs (p := e) (f := f) decX_ok h1.ok).e0 he
        exact Sim.signs (h.sign h2).2 h1.ok (by omega) he hp
theorem Sim.til {e : Txt} (h : Sim p m r r') (hok : XRd.Ok r) (he : (r.til decX e).2.e = 0) : (r'.til decX e).1 = (r.til decX e).1 ∧ Sim p m (r.til decX e).2 (r'.til decX e).2 := by
  have hstp := XRd.stp_signs (p := e) (f := r.s.length + 2) decX_ok hok
  have hend := XRd.signs_end (p := e) (f := r.s.length + 2) decX_ok hok (by omega)
  have hsl := h.slen
  have hsim : (XRd.signs decX e (r.s.length + 2) r).e = 0 → Sim p m (XRd.signs decX e (r.s.length + 2) r) (XRd.signs decX e (r'.s.length + 2) r') := fun h0 => h.signs hok (by omega) h0 (hend h0)
  unfold XRd.til at he ⊢
  generalize XRd.signs decX e (r.s.length + 2) r = Q at *
  generalize XRd.signs decX e (r'.s.length + 2) r' = Q' at *
  split at he
  · exact absurd he ‹_›
  rename_i hq
  have h0 := Classical.not_not.1 hq
  have hs := hsim h0
  rw [if_neg hq, if_neg (by rw [hs.e]; exact hq)]
  refine ⟨?_, hs.on⟩
  dsimp only
  have hle := hok.le (hstp.e0 h0)
  have hql := hstp.ok.le h0
  rw [hstp.s] at hql
  have hr := h.rest hle
  unfold XRd.rest at hr
  rw [hr, hs.at_, h.at_, show p.length + Q.at_ - (p.length + r.at_) = Q.at_ - r.at_ by omega]
  rw [List.take_append_of_le_length (by rw [List.length_drop]; omega)]
theorem Sim.name (h : Sim p m r r') (he : r.nameOf.2.e = 0) (hl : r.at_ ≤ r.s.length) (hs : r.nameOf.2.at_ < r.s.length) : r'.nameOf.1 = r.nameOf.1 ∧ Sim p m r.nameOf.2 r'.nameOf.2 := by
  have he1 : ((r.see 0).2.failIf (decide ((r.see 0).2.e = 0) && !XRd.begs (r.see 0).1) 4).e = 0 := he
  obtain ⟨_, e2⟩ := XRd.failIf_e (by decide) he1
  rw [e2] at he1
  obtain ⟨c, hc, _⟩ := XRd.see_e he1
  obtain ⟨e3, e4⟩ := h.see hc
  unfold XRd.nameOf at hs ⊢
  rw [e3] at hs
  rw [e3, e4]
  dsimp only at hs ⊢
  have hs' : (r.failIf (decide (r.e = 0) && !XRd.begs c) 4).at_ + (r.rest.takeWhile XRd.goes).length < r.s.length := hs
  rw [XRd.failIf_at] at hs'
  have e : r'.rest.takeWhile XRd.goes = r.rest.takeWhile XRd.goes := by
    rw [h.rest hl]
    refine tw_short ?_
    rw [XRd.rest_len]; omega
  rw [e, h.e]
  exact ⟨rfl, h.failIf.on⟩
theorem Sim.full (h : Sim p m r r') (he : r.full.2.e = 0) (hl : r.at_ ≤ r.s.length) (hs : r.full.2.at_ < r.s.length) : r'.full.1 = r.full.1 ∧ Sim p m r.full.2 r'.full.2 := by
  have hst := XRd.stp_name hl
  unfold XRd.full at he hs ⊢
  dsimp only at he hs ⊢
  by_cases hc : r.nameOf.2.e ≠ 0 ∨ r.nameOf.2.s[r.nameOf.2.at_]? ≠ some 58
  · rw [if_pos hc] at he hs ⊢
    obtain ⟨h1, h2⟩ := h.name he hl hs
    have hlt : r.nameOf.2.at_ < r.nameOf.2.s.length := by rw [hst.s]; exact hs
    have hg := h2.get (n := 0) (List.getElem?_eq_getElem (by rw [Nat.add_zero]; exact hlt))
    rw [Nat.add_zero] at hg
    rw [if_pos]
    · exact ⟨by rw [h1], h2⟩
    · right
      rw [hg]
      rcases hc with hc | hc
      · exact absurd he hc
      · rw [List.getElem?_eq_getElem hlt] at hc
        exact hc
  · rw [if_neg hc] at he hs ⊢
    have he1 : r.nameOf.2.e = 0 := Classical.byContradiction fun hn => hc (.inl hn)
    have h58 : r.nameOf.2.s[r.nameOf.2.at_ + 0]? = some 58 := Classical.byContradiction fun hn => hc (.inr hn)
    have hlt := XRd.lt_of_at h58
    rw [Nat.add_zero] at hlt
    obtain ⟨h1, h2⟩ := h.name he1 hl (by rw [hst.s] at hlt; exact hlt)
    have hg := h2.get h58
    rw [if_neg (by
      rintro (a | a)
      · rw [h2.e] at a; exact a he1
      · exact a hg)]
    have hl2 : (r.nameOf.2.on 1).at_ ≤ (r.nameOf.2.on 1).s.length := hlt
    obtain ⟨h3, h4⟩ := (h2.on (n := 1)).name he hl2 (by show _ < r.nameOf.2.s.length; rw [hst.s]; exact hs)
    exact ⟨by rw [h1, h3], h4⟩
theorem Sim.digitsGo {base most fr : Nat} : ∀ {f : Nat} {r r' : XRd}, Sim p m r r' → fr ≤ r.at_ → (XRd.digitsGo base most fr f r).e = 0 → Sim p m (XRd.digitsGo base most fr f r) (XRd.digitsGo base most (p.length + fr) f r')
  | 0, r, r', h, _, _ => h
  | f + 1, r, r', h, hfr, he => by
    unfold XRd.digitsGo at he ⊢
    by_cases h0 : r.e = 0
    · rw [if_pos h0] at he ⊢
      rw [if_pos (by rw [h.e]; exact h0)]
      cases hc : r.s[r.at_]? with
      | none => rw [hc] at he; exact absurd he (XRd.fail_ne (by decide))
      | some c =>
        have hg := h.get (n := 0) hc
        rw [Nat.add_zero] at hg
        rw [hc] at he
        rw [hg]
        dsimp only at he ⊢
        have hsub : r'.at_ - (p.length + fr) = r.at_ - fr := by rw [h.at_]; omega
        rw [hsub]
        split at he
        · rename_i h59
          rw [if_pos h59, if_pos h59]; exact h
        · rename_i h59
          rw [if_neg h59, if_neg h59]
          split at he
          · exact absurd he (XRd.fail_ne (by decide))
          · rename_i hd
            rw [if_neg hd, if_neg hd]
            exact Sim.digitsGo h.on (by show fr ≤ r.at_ + 1; omega) he
    · rw [if_neg h0] at he
      exact absurd he h0
theorem Sim.digits {base most : Nat} (h : Sim p m r r') (hl : r.at_ ≤ r.s.length) (he : (XRd.digits base most r).2.e = 0) : (XRd.digits base most r').1 = (XRd.digits base most r).1 ∧ Sim p m (XRd.digits base most r).2 (XRd.digits base most r').2 := by
  obtain ⟨hst, hql⟩ := XRd.digitsGo_le (base := base) (most := most) (fr := r.at_) (f := most + 2) hl
  have hsim := fun h0 => Sim.digitsGo (base := base) (most := most) (fr := r.at_) (f := most + 2) h (Nat.le_refl _) h0
  unfold XRd.digits at he ⊢
  rw [← h.at_] at hsim
  dsimp only at he ⊢
  generalize XRd.digitsGo base most r.at_ (most + 2) r = Q at *
  generalize XRd.digitsGo base most r'.at_ (most + 2) r' = Q' at *
  have he1 : (Q.failIf (decide ((r.s.drop r.at_).take (Q.at_ - r.at_) = [])) 4).e = 0 := he
  obtain ⟨_, e2⟩ := XRd.failIf_e (by decide) he1
  have hq0 : Q.e = 0 := by rw [e2] at he1; exact he1
  have hs := hsim hq0
  have hr := h.rest hl
  unfold XRd.rest at hr
  have htk : (r'.s.drop r'.at_).take (Q'.at_ - r'.at_) = (r.s.drop r.at_).take (Q.at_ - r.at_) := by
    rw [hr, hs.at_, h.at_, show p.length + Q.at_ - (p.length + r.at_) = Q.at_ - r.at_ by omega]
    rw [List.take_append_of_le_length (by rw [List.length_drop]; omega)]
  rw [htk]
  exact ⟨rfl, hs.failIf.on⟩
theorem Sim.number (h : Sim p m r r') (hl : r.at_ ≤ r.s.length) (he : (XRd.number signS r).2.e = 0) : (XRd.number signS r').1 = (XRd.number signS r).1 ∧ Sim p m (XRd.number signS r).2 (XRd.number signS r').2 := by
  unfold XRd.number at he ⊢
  dsimp only at he ⊢
  obtain ⟨_, e2⟩ := XRd.failIf_e (by decide) he
  rw [e2] at he
  clear e2
  cases hc : r.s[r.at_ + 0]? with
  | none =>
    rw [XRd.see_none hc, if_neg (show ¬ ((0 : UInt8) = _) by decide)] at he
    exact absurd ((XRd.stp_digits (by rw [XRd.fail_at, XRd.fail_s]; exact hl)).e0 he) (XRd.fail_ne (by decide))
  | some c =>
    obtain ⟨e3, e4⟩ := h.see hc
    have hlt := XRd.lt_of_at hc
    rw [e3] at he
    rw [e3, e4]
    dsimp only at he ⊢
    have hd : (if c = 120 then XRd.digits 16 6 (r'.on 1) else XRd.digits 10 7 r').1 = (if c = 120 then XRd.digits 16 6 (r.on 1) else XRd.digits 10 7 r).1 ∧ Sim p m (if c = 120 then XRd.digits 16 6 (r.on 1) else XRd.digits 10 7 r).2 (if c = 120 then XRd.digits 16 6 (r'.on 1) else XRd.digits 10 7 r').2 := by
      split
      · rw [if_pos ‹_›] at he
        exact h.on.digits (by show r.at_ + 1 ≤ r.s.length; omega) he
      · rw [if_neg ‹_›] at he
        exact h.digits hl he
    rw [hd.1]
    exact ⟨rfl, hd.2.failIf⟩
theorem refGo_hit : ∀ {l : List (Txt × Txt)} {b : Bool}, (XRd.refGo x l b r).2.e = 0 → ∃ n ∈ l, XRd.isPre n.1 x = true
  | [], b, he => absurd he (XRd.fail_ne (by decide))
  | n :: l, b, he => by
    unfold XRd.refGo at he
    by_cases hp : XRd.isPre n.1 x = true
    · exact ⟨n, List.mem_cons_self .., hp⟩
    · rw [if_neg hp] at he
      obtain ⟨n', h1, h2⟩ := refGo_hit he
      exact ⟨n', List.mem_cons_of_mem _ h1, h2⟩
theorem Sim.refGo (h : Sim p m r r') : ∀ {l : List (Txt × Txt)} {b b' : Bool}, l.Pairwise (fun a b => a.1.length ≤ b.1.length) → (XRd.refGo x l b r).2.e = 0 → (XRd.refGo (x ++ m) l b' r').1 = (XRd.refGo x l b r).1 ∧ Sim p m (XRd.refGo x l b r).2 (XRd.refGo (x ++ m) l b' r').2
  | [], b, b', hw, he => absurd he (XRd.fail_ne (by decide))
  | n :: l, b, b', hw, he => by
    unfold XRd.refGo at he ⊢
    rw [List.pairwise_cons] at hw
    by_cases hp : XRd.isPre n.1 x = true
    · rw [if_pos hp, if_pos (by rw [isPre_app (XRd.isPre_len hp)]; exact hp)]
      exact ⟨rfl, h.on⟩
    · rw [if_neg hp] at he ⊢
      obtain ⟨n', h1, h2⟩ := refGo_hit he
      have := hw.1 _ h1
      have := XRd.isPre_len h2
      rw [if_neg (by rw [isPre_app (by omega)]; exact hp)]
      exact h.refGo hw.2 he
theorem Sim.reference (h : Sim p m r r') (hl : r.at_ ≤ r.s.length) (he : (XRd.reference signS r).2.e = 0) : (XRd.reference signS r').1 = (XRd.reference signS r).1 ∧ Sim p m (XRd.reference signS r).2 (XRd.reference signS r').2 := by
  unfold XRd.reference at he ⊢
  rw [h.rest hl]
  by_cases h35 : XRd.isPre [35] r.rest = true
  · have hpl := XRd.isPre_len h35
    rw [if_pos h35] at he ⊢
    rw [if_pos (by rw [isPre_app hpl]; exact h35)]
    rw [XRd.rest_len] at hpl
    exact h.on.number (by show r.at_ + 1 ≤ r.s.length; simp at hpl; omega) he
  · rw [if_neg h35] at he ⊢
    obtain ⟨n, h1, h2⟩ := refGo_hit he
    have hpl := XRd.isPre_len h2
    have hn : 1 ≤ n.1.length := List.length_pos_iff.2 (XRd.refNames_ne n h1)
    rw [if_neg (by rw [isPre_app (by simp; omega)]; exact h35)]
    exact h.refGo (by unfold XRd.refNames; decide) he
theorem Sim.part (h : Sim p m r r') (hok : XRd.Ok r) (he : (XRd.part decX signS r).2.e = 0) : (XRd.part decX signS r').1 = (XRd.part decX signS r).1 ∧ Sim p m (XRd.part decX signS r).2 (XRd.part decX signS r').2 := by
  unfold XRd.part at he ⊢
  cases hc : r.s[r.at_ + 0]? with
  | none =>
    rw [XRd.see_none hc, if_neg (show ¬ ((0 : UInt8) = _) by decide)] at he
    have hs : XRd.Stp r (r.see 0).2 := XRd.stp_see hok
    rw [XRd.see_none hc] at hs
    exact absurd ((XRd.stp_sign decX_ok hs.ok).e0 he) (XRd.fail_ne (by decide))
  | some c =>
    obtain ⟨e3, e4⟩ := h.see hc
    have hlt := XRd.lt_of_at hc
    rw [e3] at he
    rw [e3, e4]
    dsimp only at he ⊢
    split
    · rw [if_pos ‹_›] at he
      exact h.on.reference (by show r.at_ + 1 ≤ r.s.length; omega) he
    · rw [if_neg ‹_›] at he
      exact h.sign he
theorem Sim.valGo {q : UInt8} : ∀ {f f' : Nat} {b : Txt} {r r' : XRd}, Sim p m r r' → XRd.Ok r → f ≤ f' → r.s.length < f + r.at_ → (XRd.valGo decX signS q f b r).2.e = 0 → (XRd.valGo decX signS q f' b r').1 = (XRd.valGo decX signS q f b r).1 ∧ Sim p m (XRd.valGo decX signS q f b r).2 (XRd.valGo decX signS q f' b r').2
  | 0, f', b, r, r', h, hok, hf, hl, he => by
    have : r.e = 0 := he
    have := hok.le this
    omega
  | f + 1, f', b, r, r', h, hok, hf, hl, he => by
    obtain ⟨f', rfl⟩ : ∃ g, f' = g + 1 := ⟨f' - 1, by omega⟩
    have h0 := (XRd.stp_valGo (sgn := signS) (q := q) (f := f + 1) (b := b) decX_ok hok).e0 he
    have hle := hok.le h0
    have n0 : ¬ r.e ≠ 0 := fun h => h h0
    have n0' : ¬ r'.e ≠ 0 := by rw [h.e]; exact n0
    unfold XRd.valGo at he ⊢
    rw [if_neg n0] at he ⊢
    rw [if_neg n0']
    dsimp only at he ⊢
    cases hc : r.s[r.at_ + 0]? with
    | none =>
      rw [XRd.see_none hc] at he
      dsimp only at he
      rw [if_pos (XRd.fail_ne (by decide))] at he
      exact absurd ((XRd.stp_valGo decX_ok (XRd.stp_fail (by decide) (by omega)).ok).e0 he) (XRd.fail_ne (by decide))
    | some c =>
      obtain ⟨e3, e4⟩ := h.see hc
      have hlt := XRd.lt_of_at hc
      rw [e3] at he
      rw [e3, e4]
      dsimp only at he ⊢
      rw [if_neg n0] at he ⊢
      rw [if_neg n0']
      by_cases hq : c = q
      · rw [if_pos hq, if_pos hq]
        exact ⟨rfl, h.on.failIf⟩
      · rw [if_neg hq] at he
        rw [if_neg hq, if_neg hq]
        by_cases h60 : c = 60
        · rw [if_pos h60] at he
          exact absurd ((XRd.stp_valGo decX_ok (XRd.stp_fail (by decide) (by omega)).ok).e0 he) (XRd.fail_ne (by decide))
        · rw [if_neg h60] at he
          rw [if_neg h60, if_neg h60]
          have hs := XRd.stp_part (sgn := signS) decX_ok hok
          have ha := XRd.adv_part (sgn := signS) decX_ok hok
          have hp0 := (XRd.stp_valGo decX_ok hs.ok).e0 he
          obtain ⟨h1, h2⟩ := h.part hok hp0
          rw [h1]
          have := ha hp0
          exact Sim.valGo h2 hs.ok (by omega) (by rw [hs.s]; omega) he
theorem Sim.value (h : Sim p m r r') (hl : r.at_ ≤ r.s.length) (he : (XRd.value decX signS r).2.e = 0) : r.at_ < r.s.length ∧ (XRd.value decX signS r').1 = (XRd.value decX signS r).1 ∧ Sim p m (XRd.value decX signS r).2 (XRd.value decX signS r').2 := by
  unfold XRd.value at he ⊢
  dsimp only at he ⊢
  cases hc : r.s[r.at_ + 0]? with
  | none =>
    rw [XRd.see_none hc] at he
    have hk : XRd.Ok (((r.fail 2).failIf (decide ((r.fail 2).e = 0 ∧ (0 : UInt8) ≠ 34 ∧ (0 : UInt8) ≠ 39)) 4).on 1) := by
      refine ⟨?_, ?_⟩
      · show _ + 1 ≤ _ + 1
        show ((r.fail 2).failIf _ 4).at_ + 1 ≤ ((r.fail 2).failIf _ 4).s.length + 1
        rw [XRd.failIf_at, XRd.failIf_s, XRd.fail_at, XRd.fail_s]; omega
      · intro h0
        obtain ⟨_, e2⟩ := XRd.failIf_e (by decide) (show ((r.fail 2).failIf _ 4).e = 0 from h0)
        have h0' : ((r.fail 2).failIf (decide ((r.fail 2).e = 0 ∧ (0 : UInt8) ≠ 34 ∧ (0 : UInt8) ≠ 39)) 4).e = 0 := h0
        rw [e2] at h0'
        exact absurd h0' (XRd.fail_ne (by decide))
    have h1 := (XRd.stp_valGo decX_ok hk).e0 he
    obtain ⟨_, e2⟩ := XRd.failIf_e (by decide) (show ((r.fail 2).failIf _ 4).e = 0 from h1)
    have h0' : ((r.fail 2).failIf (decide ((r.fail 2).e = 0 ∧ (0 : UInt8) ≠ 34 ∧ (0 : UInt8) ≠ 39)) 4).e = 0 := h1
    rw [e2] at h0'
    exact absurd h0' (XRd.fail_ne (by decide))
  | some c =>
    obtain ⟨e3, e4⟩ := h.see hc
    have hlt := XRd.lt_of_at hc
    have hsl := h.slen
    rw [e3] at he
    rw [e3, e4]
    dsimp only at he ⊢
    rw [h.e]
    refine ⟨by omega, Sim.valGo h.failIf.on (.of_le ?_) (by omega) ?_ he⟩
    · show (r.failIf _ 4).at_ + 1 ≤ (r.failIf _ 4).s.length
      rw [XRd.failIf_at, XRd.failIf_s]; omega
    · show (r.failIf _ 4).s.length < _ + ((r.failIf _ 4).at_ + 1)
      rw [XRd.failIf_at, XRd.failIf_s]; omega
theorem Sim.lt_wants {c : UInt8} {e : Txt} (hok : XRd.Ok r) (he : (XRd.wants (c :: e) r).e = 0) : r.at_ < r.s.length := by
  have h1 := XRd.adv_wants (p := e) (c := c) hok he
  have h2 := XRd.stp_wants (p := c :: e) hok
  have h3 := h2.ok.le he
  rw [h2.s] at h3
  omega
theorem Sim.attr {l : List XPr} (h : Sim p m r r') (hl : r.at_ ≤ r.s.length) (he : (XRd.attr decX signS l r).2.e = 0) : (XRd.attr decX signS l r').1 = (XRd.attr decX signS l r).1 ∧ Sim p m (XRd.attr decX signS l r).2 (XRd.attr decX signS l r').2 := by
  have hsf := XRd.stp_full hl
  unfold XRd.attr at he ⊢
  dsimp only at he ⊢
  generalize hb : (decide (r.full.2.e = 0) && l.any fun p => decide (p.pre = r.full.1.1 ∧ p.name = r.full.1.2)) = b at *
  have s1 := XRd.stp_failIf (b := b) (c := 4) (by decide) hsf.ok
  generalize hq : r.full.2.failIf b 4 = q at *
  have s2 := XRd.stp_blanks s1.ok
  have s3 := XRd.stp_wants (p := [61]) s2.ok
  have s4 := XRd.stp_blanks s3.ok
  have hq0 : (XRd.wants [61] q.blanks.2).blanks.2.e = 0 := by
    by_cases h0 : (XRd.wants [61] q.blanks.2).blanks.2.e = 0
    · exact h0
    · rw [if_neg h0] at he; exact absurd he h0
  rw [if_pos hq0] at he ⊢
  have e3 := s4.e0 hq0
  have e2 := s3.e0 e3
  have e1 := s2.e0 e2
  have e0 := s1.e0 e1
  have l2 := Sim.lt_wants s2.ok e3
  have l1 : q.at_ < q.s.length := by have := s2.up; rw [s2.s] at l2; omega
  have l0 : r.full.2.at_ < r.full.2.s.length := by have := s1.up; rw [s1.s] at l1; omega
  rw [hsf.s] at l0
  obtain ⟨f1, f2⟩ := h.full e0 hl l0
  have hq' : Sim p m q (r'.full.2.failIf b 4) := by rw [← hq]; exact f2.failIf
  have hbb : (decide (r'.full.2.e = 0) && l.any fun p => decide (p.pre = r'.full.1.1 ∧ p.name = r'.full.1.2)) = b := by rw [← hb, f1, f2.e]
  rw [hbb]
  generalize r'.full.2.failIf b 4 = q' at *
  have b1 := (hq'.blanks (s1.ok.le e1) (by rw [s2.s] at l2; exact l2)).2
  have w1 := b1.wants s2.ok e3
  have v1 := XRd.stp_value (sgn := signS) decX_ok (s4.ok.le hq0)
  have hlt : (XRd.wants [61] q.blanks.2).blanks.2.at_ < (XRd.wants [61] q.blanks.2).s.length := by
    rw [← s4.s]
    have hsv := he
    refine Classical.byContradiction fun hn => ?_
    have : Sim [] [] (XRd.wants [61] q.blanks.2).blanks.2 (XRd.wants [61] q.blanks.2).blanks.2 := ⟨by simp, by simp, rfl, rfl, rfl, rfl⟩
    exact hn (this.value (s4.ok.le hq0) he).1
  have b2 := (w1.blanks (s3.ok.le e3) hlt).2
  rw [if_pos (by rw [b2.e]; exact hq0), f1]
  obtain ⟨_, v2, v3⟩ := b2.value (s4.ok.le hq0) he
  rw [v2]
  exact ⟨rfl, v3⟩
theorem Sim.attrsGo : ∀ {f f' : Nat} {l : List XPr} {r r' : XRd}, Sim p m r r' → XRd.Ok r → f ≤ f' → r.s.length < f + r.at_ → (XRd.attrsGo decX signS f l r).2.e = 0 → (XRd.attrsGo decX signS f' l r').1 = (XRd.attrsGo decX signS f l r).1 ∧ Sim p m (XRd.attrsGo decX signS f l r).2 (XRd.attrsGo decX signS f' l r').2
  | 0, f', l, r, r', h, hok, hf, hl, he => by
    have : r.e = 0 := he
    have := hok.le this
    omega
  | f + 1, f', l, r, r', h, hok, hf, hl, he => by
    obtain ⟨f', rfl⟩ : ∃ g, f' = g + 1 := ⟨f' - 1, by omega⟩
    have h0 := (XRd.stp_attrsGo (sgn := signS) (f := f + 1) (l := l) decX_ok hok).e0 he
    have hle := hok.le h0
    have n0 : ¬ r.e ≠ 0 := fun h => h h0
    have n0' : ¬ r'.e ≠ 0 := by rw [h.e]; exact n0
    have sb := XRd.stp_blanks hok
    unfold XRd.attrsGo at he ⊢
    rw [if_neg n0] at he ⊢
    rw [if_neg n0']
    dsimp only at he ⊢
    cases hc : r.blanks.2.s[r.blanks.2.at_ + 0]? with
    | none =>
      rw [XRd.see_none hc] at he
      rw [if_pos (.inl (XRd.fail_ne (by decide)))] at he
      exact absurd he (XRd.fail_ne (by decide))
    | some c =>
      have hlt := XRd.lt_of_at hc
      rw [sb.s] at hlt
      obtain ⟨b1, b2⟩ := h.blanks hle (by omega)
      obtain ⟨e3, e4⟩ := b2.see hc
      have hb0 : r.blanks.2.e = 0 := h0
      rw [e3] at he
      rw [e3, e4, b1]
      dsimp only at he ⊢
      rw [b2.e]
      by_cases h2 : r.blanks.2.e ≠ 0 ∨ c = 47 ∨ c = 62
      · rw [if_pos h2, if_pos h2]
        exact ⟨rfl, b2⟩
      · rw [if_neg h2] at he
        rw [if_neg h2, if_neg h2]
        by_cases h3 : r.blanks.1 = false
        · rw [if_pos h3] at he
          exact absurd ((XRd.stp_attrsGo decX_ok (XRd.stp_fail (by decide) (by rw [sb.s]; omega)).ok).e0 he) (XRd.fail_ne (by decide))
        · rw [if_neg h3] at he
          rw [if_neg h3, if_neg h3]
          obtain ⟨hs, ha⟩ := XRd.stp_attr (sgn := signS) (l := l) (r := r.blanks.2) decX_ok (by rw [sb.s]; omega)
          have hp0 := (XRd.stp_attrsGo decX_ok hs.ok).e0 he
          obtain ⟨h1, h2⟩ := b2.attr (l := l) (by rw [sb.s]; omega) hp0
          rw [h1]
          have := ha hp0
          have := sb.up
          exact Sim.attrsGo h2 hs.ok (by omega) (by rw [hs.s, sb.s]; omega) he
theorem Sim.attrs (h : Sim p m r r') (hok : XRd.Ok r) (he : (XRd.attrs decX signS r).2.e = 0) : (XRd.attrs decX signS r').1 = (XRd.attrs decX signS r).1 ∧ Sim p m (XRd.attrs decX signS r).2 (XRd.attrs decX signS r').2 := by
  have hsl := h.slen
  exact h.attrsGo hok (by omega) (by omega) he
theorem Sim.space {f : XFr} {pre : Txt} (h : Sim p m r r') : (XRd.space f pre r').1 = (XRd.space f pre r).1 ∧ Sim p m (XRd.space f pre r).2 (XRd.space f pre r').2 := by
  rw [XRd.space_eq, XRd.space_eq, h.op]
  cases XRd.spaceV f pre r.op with
  | some s => exact ⟨rfl, h⟩
  | none => exact ⟨rfl, h.fail⟩
theorem Sim.attsOf {f : XFr} : ∀ {l : List XPr} {o : List XAt} {r r' : XRd}, Sim p m r r' → (XRd.attsOf f l o r').1 = (XRd.attsOf f l o r).1 ∧ Sim p m (XRd.attsOf f l o r).2 (XRd.attsOf f l o r').2
  | [], o, r, r', h => ⟨rfl, h⟩
  | a :: l, o, r, r', h => by
    unfold XRd.attsOf
    split
    · exact h.attsOf
    · split
      · rw [(h.space (f := f) (pre := a.pre)).1]
        exact (h.space).2.attsOf
      · exact h.attsOf
theorem Sim.begin_ {n : Txt × Txt} {l : List XPr} (h : Sim p m r r') : (XRd.begin_ n l r').1 = (XRd.begin_ n l r).1 ∧ Sim p m (XRd.begin_ n l r).2 (XRd.begin_ n l r').2 := by
  unfold XRd.begin_
  dsimp only
  refine ⟨rfl, ?_⟩
  have h1 := h.space (f := ⟨n.1, n.2, XRd.spacesOf l []⟩) (pre := n.1)
  have h2 := h1.2.attsOf (f := ⟨n.1, n.2, XRd.spacesOf l []⟩) (l := l) (o := [])
  rw [h1.1, h2.1]
  exact ⟨h2.2.s, h2.2.at_, h2.2.e, by dsimp only; rw [h2.2.out], h2.2.op, h2.2.run⟩
theorem Sim.close {f : XFr} (h : Sim p m r r') : Sim p m (XRd.close f r) (XRd.close f r') := by
  unfold XRd.close
  have h1 := h.space (f := f) (pre := f.pre)
  rw [h1.1]
  exact ⟨h1.2.s, h1.2.at_, h1.2.e, by dsimp only; rw [h1.2.out], h1.2.op, h1.2.run⟩
theorem Sim.flush (h : Sim p m r r') : Sim p m r.flush r'.flush := by
  unfold XRd.flush
  rw [h.run, h.out]
  split
  · exact Sim.fail ⟨h.s, h.at_, h.e, rfl, h.op, rfl⟩
  · split
    · exact ⟨h.s, h.at_, h.e, rfl, h.op, rfl⟩
    · exact ⟨h.s, h.at_, h.e, rfl, h.op, rfl⟩
theorem Sim.element (h : Sim p m r r') (hl : r.at_ + 1 ≤ r.s.length) (he : (XRd.element decX signS r).e = 0) : Sim p m (XRd.element decX signS r) (XRd.element decX signS r') := by
  unfold XRd.element at he ⊢
  dsimp only at he ⊢
  have hop : (r'.on 1).op = (r.on 1).op := h.op
  rw [hop]
  have hl1 : (r.on 1).at_ ≤ (r.on 1).s.length := hl
  have hon := h.on (n := 1)
  generalize r.on 1 = r1 at *
  generalize r'.on 1 = r1' at *
  split at he
  · exact absurd he (XRd.fail_ne (by decide))
  rename_i h64
  rw [if_neg h64, if_neg h64]
  have s1 := XRd.stp_full hl1
  have s2 := XRd.stp_attrs (sgn := signS) decX_ok s1.ok
  split at he
  · rename_i hn; exact absurd he hn
  rename_i ha
  have e2 := Classical.not_not.1 ha
  have e1 := s2.e0 e2
  cases hc : (XRd.attrs decX signS r1.full.2).2.s[(XRd.attrs decX signS r1.full.2).2.at_ + 0]? with
  | none =>
    rw [XRd.see_none hc, if_neg (show ¬ ((0 : UInt8) = _) by decide)] at he
    have hs := XRd.stp_see (n := 0) s2.ok
    rw [XRd.see_none hc] at hs
    rw [XRd.wants_no (XRd.fail_ne (by decide)), if_pos (XRd.fail_ne (by decide))] at he
    exact absurd he (XRd.fail_ne (by decide))
  | some c =>
    have hlt := XRd.lt_of_at hc
    have l1 : r1.full.2.at_ < r1.s.length := by have := s2.up; rw [s2.s, s1.s] at hlt; omega
    obtain ⟨f1, f2⟩ := hon.full e1 hl1 l1
    obtain ⟨a1, a2⟩ := f2.attrs s1.ok e2
    obtain ⟨e3, e4⟩ := a2.see hc
    rw [e3] at he
    have ha' : ¬ (XRd.attrs decX signS r1'.full.2).2.e ≠ 0 := by rw [a2.e]; exact ha
    rw [if_neg ha, if_neg ha', e3, e4, f1, a1]
    dsimp only at he ⊢
    generalize (XRd.attrs decX signS r1.full.2).1 = al at *
    generalize (XRd.attrs decX signS r1.full.2).2 = q at *
    generalize (XRd.attrs decX signS r1'.full.2).2 = q' at *
    have hw : Sim p m (if c = 47 then q.on 1 else q) (if c = 47 then q'.on 1 else q') := by
      split
      · exact a2.on
      · exact a2
    have hk : XRd.Ok (if c = 47 then q.on 1 else q) := by
      split
      · exact .of_le (by show q.at_ + 1 ≤ q.s.length; omega)
      · exact s2.ok
    generalize (if c = 47 then q.on 1 else q) = u at *
    generalize (if c = 47 then q'.on 1 else q') = u' at *
    split at he
    · rename_i hn; exact absurd he hn
    rename_i hw0
    have w1 := hw.wants hk (Classical.not_not.1 hw0)
    have hw0' : ¬ (XRd.wants [62] u').e ≠ 0 := by rw [w1.e]; exact hw0
    rw [if_neg hw0, if_neg hw0']
    obtain ⟨b1, b2⟩ := w1.begin_ (n := r1.full.1) (l := al)
    rw [b1]
    split
    · exact b2.close
    · exact ⟨b2.s, b2.at_, b2.e, b2.out, by dsimp only; rw [b2.op], b2.run⟩
theorem Sim.end_ (h : Sim p m r r') (hl : r.at_ + 2 ≤ r.s.length) (he : (XRd.end_ r).e = 0) : Sim p m (XRd.end_ r) (XRd.end_ r') := by
  unfold XRd.end_ at he ⊢
  dsimp only at he ⊢
  have hop : (r'.on 2).op = (r.on 2).op := h.op
  rw [hop]
  have hl1 : (r.on 2).at_ ≤ (r.on 2).s.length := hl
  have hon := h.on (n := 2)
  generalize r.on 2 = r1 at *
  generalize r'.on 2 = r1' at *
  have s1 := XRd.stp_full hl1
  generalize hb : decide (r1.full.2.e = 0 ∧ ¬ (r1.full.1.1 = (r1.op.getLastD default).pre ∧ r1.full.1.2 = (r1.op.getLastD default).name)) = b at *
  have s2 := XRd.stp_failIf (b := b) (c := 4) (by decide) s1.ok
  generalize hq : r1.full.2.failIf b 4 = q at *
  have s3 := XRd.stp_blanks s2.ok
  have s4 := XRd.stp_wants (p := [62]) s3.ok
  have e4 : (XRd.wants [62] q.blanks.2).e = 0 := by
    by_cases h0 : (XRd.wants [62] q.blanks.2).e = 0
    · exact h0
    · rw [if_neg h0] at he; exact absurd he h0
  have e3 := s4.e0 e4
  have e2 := s3.e0 e3
  have e1 := s2.e0 e2
  have l3 := Sim.lt_wants s3.ok e4
  rw [s3.s] at l3
  have l1 : r1.full.2.at_ < r1.s.length := by have := s3.up; have := s2.up; rw [s2.s, s1.s] at l3; omega
  obtain ⟨f1, f2⟩ := hon.full e1 hl1 l1
  have hbb : decide (r1'.full.2.e = 0 ∧ ¬ (r1'.full.1.1 = (r1.op.getLastD default).pre ∧ r1'.full.1.2 = (r1.op.getLastD default).name)) = b := by rw [← hb, f1, f2.e]
  rw [hbb]
  have hq' : Sim p m q (r1'.full.2.failIf b 4) := by rw [← hq]; exact f2.failIf
  generalize r1'.full.2.failIf b 4 = q' at *
  have b1 := (hq'.blanks (s2.ok.le e2) l3).2
  have w1 := b1.wants s3.ok e4
  rw [if_pos e4, if_pos (by rw [w1.e]; exact e4)]
  have c1 := w1.close (f := r1.op.getLastD default)
  exact ⟨c1.s, c1.at_, c1.e, c1.out, by dsimp only; rw [c1.op], c1.run⟩
theorem Sim.comment (h : Sim p m r r') (hok : XRd.Ok r) (he : (XRd.comment decX r).e = 0) : Sim p m (XRd.comment decX r) (XRd.comment decX r') := by
  unfold XRd.comment at he ⊢
  have s1 := XRd.stp_wants (p := [60, 33, 45, 45]) hok
  have s2 := XRd.stp_til (p := [45, 45]) decX_ok s1.ok
  have e2 := (XRd.stp_wants s2.ok).e0 he
  exact ((h.wants hok (s2.e0 e2)).til s1.ok e2).2.wants s2.ok he
theorem Sim.content (h : Sim p m r r') (hok : XRd.Ok r) (he : (XRd.content decX signS r).e = 0) : Sim p m (XRd.content decX signS r) (XRd.content decX signS r') := by
  unfold XRd.content at he ⊢
  dsimp only at he ⊢
  cases hc : r.s[r.at_ + 0]? with
  | none =>
    rw [XRd.see_none hc, if_pos (show (0 : UInt8) ≠ _ by decide)] at he
    have hs := XRd.stp_see (n := 0) hok
    rw [XRd.see_none hc] at hs
    exact absurd ((XRd.stp_part (sgn := signS) decX_ok hs.ok).e0 he) (XRd.fail_ne (by decide))
  | some c =>
    obtain ⟨e3, e4⟩ := h.see hc
    have hlt := XRd.lt_of_at hc
    rw [e3] at he
    rw [e3, e4]
    dsimp only at he ⊢
    split at he
    · rename_i h60
      rw [if_pos h60, if_pos h60]
      have p1 := h.part hok he
      rw [p1.1]
      exact ⟨p1.2.s, p1.2.at_, p1.2.e, p1.2.out, p1.2.op, by dsimp only; rw [p1.2.run]⟩
    rename_i h60
    rw [if_neg h60, if_neg h60]
    cases hd : r.s[r.at_ + 1]? with
    | none =>
      rw [XRd.see_none hd, if_pos (XRd.fail_ne (by decide))] at he
      exact absurd he (XRd.fail_ne (by decide))
    | some d =>
      obtain ⟨e5, e6⟩ := h.see hd
      have hlt1 := XRd.lt_of_at hd
      rw [e5] at he
      rw [e5, e6]
      dsimp only at he ⊢
      split at he
      · rename_i hn; exact absurd he hn
      rename_i hn
      have hn' : ¬ r'.e ≠ 0 := by rw [h.e]; exact hn
      rw [if_neg hn, if_neg hn']
      by_cases h33 : d = 33
      · cases hf : r.s[r.at_ + 2]? with
        | none =>
          rw [XRd.see_none hf, if_neg (fun h => absurd h.2 (show ¬ (0 : UInt8) = 91 by decide)), if_pos h33] at he
          have hs := XRd.stp_see (n := 2) hok
          rw [XRd.see_none hf] at hs
          exact absurd ((XRd.stp_comment decX_ok hs.ok).e0 he) (XRd.fail_ne (by decide))
        | some g =>
          obtain ⟨e7, e8⟩ := h.see hf
          rw [e7] at he
          rw [e7, e8]
          dsimp only at he ⊢
          by_cases h91 : d = 33 ∧ g = 91
          · rw [if_pos h91] at he
            rw [if_pos h91, if_pos h91]
            have s1 := XRd.stp_wants (p := [60, 33, 91, 67, 68, 65, 84, 65, 91]) hok
            have s2 := XRd.stp_til (p := [93, 93, 62]) decX_ok s1.ok
            have t1 := (h.wants hok (s2.e0 he)).til s1.ok he
            rw [t1.1]
            exact ⟨t1.2.s, t1.2.at_, t1.2.e, t1.2.out, t1.2.op, by dsimp only; rw [t1.2.run]⟩
          · rw [if_neg h91, if_pos h33] at he
            rw [if_neg h91, if_neg h91, if_pos h33, if_pos h33]
            exact h.comment hok he
      · have h91 : ¬ (d = 33 ∧ (r.see 2).1 = 91) := fun h => h33 h.1
        have h91' : ¬ (d = 33 ∧ (r'.see 2).1 = 91) := fun h => h33 h.1
        rw [if_neg h91, if_neg h33] at he
        rw [if_neg h91, if_neg h91', if_neg h33, if_neg h33]
        have fs := XRd.flush_same r
        by_cases h47 : d = 47
        · rw [if_pos h47] at he
          rw [if_pos h47, if_pos h47]
          exact h.flush.end_ (by rw [fs.1, fs.2.1]; omega) he
        · rw [if_neg h47] at he
          rw [if_neg h47, if_neg h47]
          by_cases hb : XRd.begs d = true
          · rw [if_pos hb] at he
            rw [if_pos hb, if_pos hb]
            exact h.flush.element (by rw [fs.1, fs.2.1]; omega) he
          · rw [if_neg hb] at he
            exact absurd he (XRd.fail_ne (by decide))
end
end Go.Proofs.YtlflpbflpcmckaaDoor
namespace Go.Proofs.YtlflpbflpcmckaaDoor
open Go Go.Ez Go.RowKit Go.Lib
set_option linter.unusedSimpArgs false
set_option linter.unusedVariables false
section
variable {p m x b u : Txt} {r r' : XRd} {c d : UInt8} {n : Nat}
theorem contents_no {f : Nat} (hne : r.e ≠ 0) : XRd.contents decX signS f r = r := by
  cases f with
  | zero => rfl
  | succ f => unfold XRd.contents; rw [if_neg (fun h => hne h.1)]
theorem misc_no {f : Nat} (hne : r.e ≠ 0) : XRd.misc decX f r = r := by
  cases f with
  | zero => rfl
  | succ f => unfold XRd.misc; rw [if_pos hne]
theorem Sim.contents : ∀ {f f' : Nat} {r r' : XRd}, Sim p m r r' → XRd.Ok r → f ≤ f' → (XRd.contents decX signS f r).e = 0 → (XRd.contents decX signS f r).op = [] → Sim p m (XRd.contents decX signS f r) (XRd.contents decX signS f' r')
  | 0, f', r, r', h, hok, hf, he, ho => by
    have : r'.op = [] := h.op.trans ho
    rw [contents_done this]
    exact h
  | f + 1, f', r, r', h, hok, hf, he, ho => by
    obtain ⟨f', rfl⟩ : ∃ g, f' = g + 1 := ⟨f' - 1, by omega⟩
    unfold XRd.contents at he ho ⊢
    by_cases hc : r.e = 0 ∧ r.op ≠ []
    · rw [if_pos hc] at he ho ⊢
      rw [if_pos (by rw [h.e, h.op]; exact hc)]
      have hce : (XRd.content decX signS r).e = 0 := Classical.byContradiction fun hn => by
        rw [contents_no hn] at he; exact hn he
      exact Sim.contents (h.content hok hce) (XRd.bnd_content (sgn := signS) decX_ok (fun q => part_len) hok).1.ok (by omega) he ho
    · rw [if_neg hc] at he ho ⊢
      rw [if_neg (by rw [h.e, h.op]; exact hc)]
      exact h
theorem tw_last {f : UInt8 → Bool} : ∀ {a : Txt}, (a.takeWhile f).length = a.length → ∀ c ∈ a, f c = true
  | [], h, c, hc => by cases hc
  | d :: a, h, c, hc => by
    rw [List.takeWhile_cons] at h
    cases hd : f d with
    | false => rw [hd] at h; simp at h
    | true =>
      rw [hd] at h
      simp only [if_true, List.length_cons, Nat.add_right_cancel_iff] at h
      rcases List.mem_cons.1 hc with e | e
      · rw [e]; exact hd
      · exact tw_last h c e
theorem Sim.misc : ∀ {f f' : Nat} {r r' : XRd}, Sim p m r r' → XRd.Ok r → f ≤ f' → r.s.length < f + r.at_ → (∀ c, r.s.getLast? = some c → XRd.isBl c = false) → (XRd.misc decX f r).e = 0 → r.s.length ≤ (XRd.misc decX f r).at_ →
    ∃ f'' R, f' ≤ f'' + f ∧ Sim p m (XRd.misc decX f r) R ∧ XRd.misc decX f' r' = XRd.misc decX f'' R
  | 0, f', r, r', h, hok, hf, hl, hb, he, ha => by
    have : r.e = 0 := he
    have := hok.le this
    omega
  | f + 1, f', r, r', h, hok, hf, hl, hb, he, ha => by
    obtain ⟨f', rfl⟩ : ∃ g, f' = g + 1 := ⟨f' - 1, by omega⟩
    have h0 := (XRd.stp_misc (f := f + 1) decX_ok hok).e0 he
    have hle := hok.le h0
    have n0 : ¬ r.e ≠ 0 := fun h => h h0
    have n0' : ¬ r'.e ≠ 0 := by rw [h.e]; exact n0
    have sb := XRd.stp_blanks hok
    have hup := sb.up
    have e1 : XRd.misc decX (f + 1) r = if XRd.isPre [60, 33] r.blanks.2.rest = false then r.blanks.2 else XRd.misc decX f (XRd.comment decX r.blanks.2) := by
      conv => lhs; unfold XRd.misc
      rw [if_neg n0]
    by_cases hlt : r.blanks.2.at_ < r.s.length
    · have b2 := (h.blanks hle hlt).2
      have e2 : XRd.misc decX (f' + 1) r' = if XRd.isPre [60, 33] r'.blanks.2.rest = false then r'.blanks.2 else XRd.misc decX f' (XRd.comment decX r'.blanks.2) := by
        conv => lhs; unfold XRd.misc
        rw [if_neg n0']
      rw [e1] at he ha ⊢
      rw [e2]
      by_cases hp : XRd.isPre [60, 33] r.blanks.2.rest = false
      · rw [if_pos hp] at ha; omega
      · rw [if_neg hp] at he ha ⊢
        have hpl := XRd.isPre_len (show XRd.isPre [60, 33] r.blanks.2.rest = true by revert hp; cases XRd.isPre [60, 33] r.blanks.2.rest <;> simp)
        rw [if_neg (by rw [b2.rest (by rw [sb.s]; omega), isPre_app hpl]; exact hp)]
        have hs := XRd.stp_comment decX_ok sb.ok
        have hc0 := (XRd.stp_misc decX_ok hs.ok).e0 he
        have had := XRd.adv_comment decX_ok sb.ok hc0
        obtain ⟨f'', R, g1, g2, g3⟩ := Sim.misc (f := f) (f' := f') (b2.comment sb.ok hc0) hs.ok (by omega) (by rw [hs.s, sb.s]; omega) (by rw [hs.s, sb.s]; exact hb) he (by rw [hs.s, sb.s]; exact ha)
        exact ⟨f'', R, by omega, g2, g3⟩
    · have hrl := XRd.rest_len (r := r)
      have hat : r.blanks.2.at_ = r.at_ + (r.rest.takeWhile XRd.isBl).length := rfl
      have htl := XRd.tw_le XRd.isBl r.rest
      have hr0 : r.rest = [] := by
        refine Classical.byContradiction fun hne => ?_
        have hall := tw_last (f := XRd.isBl) (a := r.rest) (by omega)
        have h1 := List.getLast?_eq_some_getLast hne
        have h2 : r.s.getLast? = some (r.rest.getLast hne) := by
          rw [← h1]
          unfold XRd.rest
          rw [List.getLast?_drop, if_neg (by have := List.length_pos_iff.2 hne; omega)]
        have h3 := hb _ h2
        rw [hall _ (List.getLast_mem hne)] at h3
        cases h3
      have e3 : r.blanks.2 = r := by
        unfold XRd.blanks
        dsimp only
        rw [hr0]
        rfl
      rw [e1, e3, hr0, if_pos (by decide)]
      exact ⟨f' + 1, r', by omega, h, rfl⟩
theorem tok_nobeg (hb : XRd.begs d = false) (hl : (60 :: d :: u).length ≤ 20000) (hd : d ≠ 63 ∧ d ≠ 33) : (tokX (60 :: d :: u)).2 ≠ 0 := by
  unfold tokX XRd.tokens
  rw [if_neg (by omega)]
  dsimp only
  rw [front_plain hd, Mr.see0]
  dsimp only
  rw [decide_eq_false (fun h => h.2 rfl), show ∀ q : XRd, q.failIf false 4 = q from fun _ => rfl, Mr.see1]
  dsimp only
  rw [hb, show (decide ((Mr [] (60 :: d :: u) [] [] []).e = 0) && !false) = true from rfl, show ∀ q : XRd, q.failIf true 4 = q.fail 4 from fun _ => rfl]
  have hf : ((Mr [] (60 :: d :: u) [] [] []).fail 4).e ≠ 0 := XRd.fail_ne (by decide)
  rw [if_neg hf, contents_no hf, misc_no hf, decide_eq_false (fun h => hf h.1), show ∀ q : XRd, q.failIf false 4 = q from fun _ => rfl, if_pos hf]
  exact hf
theorem contents_s : ∀ {f : Nat} {r : XRd}, XRd.Ok r → (XRd.contents decX signS f r).s = r.s
  | 0, r, h => rfl
  | f + 1, r, h => by
    unfold XRd.contents
    split
    · have hb := (XRd.bnd_content (sgn := signS) decX_ok (fun q => part_len) h).1
      rw [contents_s hb.ok, hb.s]
    · rfl
/-- what a document is that is read -/
structure Cd (b : Txt) (C : XRd) : Prop where
  e : C.e = 0
  op : C.op = []
  s : C.s = b
  ok : XRd.Ok C
  me : (XRd.misc decX (b.length + 2) C).e = 0
  ma : b.length ≤ (XRd.misc decX (b.length + 2) C).at_
  out : (tokX b).1 = C.out
  el : (XRd.element decX signS (Mr [] b [] [] [])).e = 0
  c : C = XRd.contents decX signS (b.length + 2) (XRd.element decX signS (Mr [] b [] [] []))
theorem tok_parts (hl : b.length ≤ 20000) (hb : b = 60 :: d :: u) (hd : d ≠ 63 ∧ d ≠ 33) (he : (tokX b).2 = 0) : XRd.begs d = true ∧ Cd b (XRd.contents decX signS (b.length + 2) (XRd.element decX signS (Mr [] b [] [] []))) := by
  have hbeg : XRd.begs d = true := by
    cases h : XRd.begs d with
    | true => rfl
    | false => subst hb; exact absurd he (tok_nobeg h hl hd)
  refine ⟨hbeg, ?_⟩
  have hlen : 2 ≤ b.length := by rw [hb]; simp
  have hbnd := (XRd.bnd_element (sgn := signS) (r := Mr [] b [] [] []) decX_ok (by show 0 + 1 ≤ b.length; omega)).1
  have hok1 := hbnd.ok
  have hf : XRd.front decX ⟨b, 0, 0, [], [], []⟩ = Mr [] (60 :: d :: u) [] [] [] := by rw [hb]; exact front_plain hd
  have ht := tok_of (b := b) hl hf hbeg rfl
  rw [← hb] at ht
  generalize hC : XRd.contents decX signS (b.length + 2) (XRd.element decX signS (Mr [] b [] [] [])) = C at *
  have hcok : XRd.Ok C := by rw [← hC]; exact (XRd.contents_out (sgn := signS) decX_ok (fun q => part_len) hok1).2
  have hst := XRd.stp_misc (f := b.length + 2) decX_ok hcok
  by_cases hz : (XRd.misc decX (b.length + 2) C).e = 0
  · generalize hM : XRd.misc decX (b.length + 2) C = M at *
    have hce := hst.e0 hz
    have hel : (XRd.element decX signS (Mr [] b [] [] [])).e = 0 := Classical.byContradiction fun hn => by
      rw [contents_no hn] at hC
      rw [hC] at hn
      exact hn hce
    have hcs : C.s = b := by
      rw [← hC]
      exact (contents_s hok1).trans hbnd.s
    have hT : XRd.Tinv (Mr [] b [] [] []) [] := ⟨rfl, ⟨rfl, fun i t f hi => by cases hi⟩, by simp⟩
    obtain ⟨st', hF, _⟩ := XRd.element_inv (sgn := signS) decX_ok hT (fun hx => absurd rfl hx) (by show 0 + 1 ≤ b.length; omega) hel
    obtain ⟨g1, g2, g3, g4⟩ := XRd.contents_inv (sgn := signS) (f := b.length + 2) decX_ok hF.inv hF.fre hF.two hF.ok (by rw [hF.s]; show b.length < _; omega) (by rw [hC]; exact hce)
    rw [hC] at g3
    by_cases hlt : M.at_ < M.s.length
    · rw [decide_eq_true ⟨hz, hlt⟩, show ∀ q : XRd, q.failIf true 4 = q.fail 4 from fun _ => rfl, if_pos (XRd.fail_ne (by decide))] at ht
      rw [ht] at he
      exact absurd he (XRd.fail_ne (by decide))
    · rw [decide_eq_false (fun h => hlt h.2), show ∀ q : XRd, q.failIf false 4 = q from fun _ => rfl, if_neg (fun h => h hz)] at ht
      refine ⟨hce, g3, hcs, hcok, by rw [hM]; exact hz, ?_, by rw [ht]; exact hst.out, hel, hC.symm⟩
      rw [hM]
      rw [hst.s, hcs] at hlt
      omega
  · rw [decide_eq_false (fun h => hz h.1), show ∀ q : XRd, q.failIf false 4 = q from fun _ => rfl, if_pos hz] at ht
    rw [ht] at he
    exact absurd he hz
/-- what is read of a document, in another one that begins with it -/
theorem Cd.sim {C : XRd} {p m : Txt} {N : Nat} (h : Cd b C) (hl : 2 ≤ b.length) (hN : b.length + 2 ≤ N) : Sim p m C (XRd.contents decX signS N (XRd.element decX signS (Mr p (b ++ m) [] [] []))) := by
  have h0 : Sim p m (Mr [] b [] [] []) (Mr p (b ++ m) [] [] []) := ⟨by show p ++ (b ++ m) = p ++ ([] ++ b) ++ m; simp, rfl, rfl, rfl, rfl, rfl⟩
  have h1 := h0.element (by show 0 + 1 ≤ b.length; omega) h.el
  have hbnd := (XRd.bnd_element (sgn := signS) (r := Mr [] b [] [] []) decX_ok (by show 0 + 1 ≤ b.length; omega)).1
  have e := h.e
  have o := h.op
  rw [h.c] at e o ⊢
  exact h1.contents hbnd.ok hN e o
/-- cut off -/
theorem cut_tok (hl : b.length ≤ 20000) (hb : b = 60 :: d :: u) (hd : d ≠ 63 ∧ d ≠ 33) (he : (tokX b).2 = 0) {k : Nat} (hk : k < b.length) (h2 : (tokX (b.take k)).2 = 0) : (tokX (b.take k)).1 = (tokX b).1 ∧ b.take k ≠ [] := by
  have h0 : (tokX []).2 ≠ 0 := by decide +kernel
  have h1 : (tokX [60]).2 ≠ 0 := by decide +kernel
  have k0 : k ≠ 0 := fun e => by
    rw [e, List.take_zero] at h2
    exact h0 h2
  have k1 : k ≠ 1 := fun e => by
    rw [e, hb, List.take_succ_cons, List.take_zero] at h2
    exact h1 h2
  obtain ⟨k, rfl⟩ : ∃ g, k = g + 2 := ⟨k - 2, by omega⟩
  have hn : b.take (k + 2) = 60 :: d :: u.take k := by rw [hb, List.take_succ_cons, List.take_succ_cons]
  obtain ⟨_, c1⟩ := tok_parts hl hb hd he
  obtain ⟨_, c2⟩ := tok_parts (b := b.take (k + 2)) (by rw [List.length_take]; omega) hn hd h2
  have hs := c2.sim (p := []) (m := b.drop (k + 2)) (N := b.length + 2) (by rw [List.length_take]; omega) (by rw [List.length_take]; omega)
  rw [List.take_append_drop] at hs
  exact ⟨by rw [c1.out, c2.out, ← hs.out], by rw [hn]; simp⟩
def aheadT : Txt := [32, 60, 33, 45, 45, 32, 120, 32, 45, 45, 62]
def behindT : Txt := [10, 60, 33, 45, 45, 45, 45, 62]
theorem front_ahead (hd : d ≠ 63 ∧ d ≠ 33) : XRd.front decX ⟨aheadT ++ 60 :: d :: u, 0, 0, [], [], []⟩ = Mr aheadT (60 :: d :: u) [] [] [] := by
  have hr : (⟨aheadT ++ 60 :: d :: u, 0, 0, [], [], []⟩ : XRd) = Mr [] (aheadT ++ 60 :: d :: u) [] [] [] := rfl
  unfold XRd.front
  rw [hr]
  dsimp only
  have e1 : XRd.isPre [239, 187, 191] (aheadT ++ 60 :: d :: u) = false := rfl
  have e2 : XRd.isPre [60, 63] (aheadT ++ 60 :: d :: u) = false := rfl
  have e3 : XRd.isPre [60, 33] (60 :: d :: u) = false := by
    unfold XRd.isPre
    refine decide_eq_false fun e => ?_
    simp at e
    exact hd.2 e
  rw [Mr.rest, e1]
  simp only [Bool.false_eq_true, if_false]
  rw [Mr.rest, e2]
  simp only [Bool.false_eq_true, if_false]
  have h1 := Mr.blanks (x := [32]) (p := []) (t := 60 :: 33 :: 45 :: 45 :: ([32, 120, 32] ++ 45 :: 45 :: 62 :: 60 :: d :: u)) (out := []) (op := []) (run := []) (by decide) (.cons (by decide))
  have h2 := Mr.comment (x := [32, 120, 32]) (p := [] ++ [32]) (t := 60 :: d :: u) (out := []) (op := []) (run := []) (by decide +kernel) (noM_head (by decide))
  have hm : ∀ f, XRd.misc decX (f + 2) (Mr [] (aheadT ++ 60 :: d :: u) [] [] []) = Mr aheadT (60 :: d :: u) [] [] [] := fun f => by
    unfold XRd.misc
    rw [if_neg (fun h => h rfl), show Mr [] (aheadT ++ 60 :: d :: u) [] [] [] = Mr [] ([32] ++ 60 :: 33 :: 45 :: 45 :: ([32, 120, 32] ++ 45 :: 45 :: 62 :: 60 :: d :: u)) [] [] [] from rfl, h1]
    dsimp only
    rw [Mr.rest, if_neg (show ¬ XRd.isPre [60, 33] (60 :: 33 :: 45 :: 45 :: ([32, 120, 32] ++ 45 :: 45 :: 62 :: 60 :: d :: u)) = false from by intro h; cases h), h2]
    unfold XRd.misc
    rw [if_neg (fun h => h rfl), Mr.blanks0 (.cons (by decide))]
    dsimp only
    rw [Mr.rest, if_pos e3]
    rfl
  exact hm _
/-- blanks and comments around it -/
theorem around_tok (hl : b.length ≤ 19000) (hb : b = 60 :: d :: u) (hd : d ≠ 63 ∧ d ≠ 33) (hg : b.getLast? = some 62) (he : (tokX b).2 = 0) : tokX (aheadT ++ b ++ behindT) = ((tokX b).1, 0) := by
  obtain ⟨hbeg, c1⟩ := tok_parts (by omega) hb hd he
  have hlb : 2 ≤ b.length := by rw [hb]; simp
  have hlen : (aheadT ++ b ++ behindT).length = b.length + 19 := by simp only [List.length_append]; show 11 + b.length + 8 = _; omega
  have hs := c1.sim (p := aheadT) (m := behindT) (N := (aheadT ++ b ++ behindT).length + 2) hlb (by omega)
  have hf : XRd.front decX ⟨aheadT ++ b ++ behindT, 0, 0, [], [], []⟩ = Mr aheadT (60 :: d :: (u ++ behindT)) [] [] [] := by
    have := front_ahead (u := u ++ behindT) hd
    rw [show aheadT ++ b ++ behindT = aheadT ++ 60 :: d :: (u ++ behindT) by rw [hb]; simp]
    exact this
  have hbm : b ++ behindT = 60 :: d :: (u ++ behindT) := by rw [hb]; rfl
  rw [hbm] at hs
  have ht := tok_of (b := aheadT ++ b ++ behindT) (by omega) hf hbeg rfl
  generalize XRd.contents decX signS ((aheadT ++ b ++ behindT).length + 2) (XRd.element decX signS (Mr aheadT (60 :: d :: (u ++ behindT)) [] [] [])) = C' at *
  generalize XRd.contents decX signS (b.length + 2) (XRd.element decX signS (Mr [] b [] [] [])) = C at *
  obtain ⟨f'', R, g1, g2, g3⟩ := hs.misc (f := b.length + 2) (f' := (aheadT ++ b ++ behindT).length + 2) c1.ok (by omega) (by rw [c1.s]; omega) (fun c hc => by rw [c1.s, hg] at hc; cases hc; decide) c1.me (by rw [c1.s]; exact c1.ma)
  have hst := XRd.stp_misc (f := b.length + 2) decX_ok c1.ok
  have hR : R = Mr (aheadT ++ b) behindT R.out R.op R.run := by
    have hat : (XRd.misc decX (b.length + 2) C).at_ = b.length := by
      have h1 := c1.ma
      have h2 := hst.ok.le c1.me
      rw [hst.s, c1.s] at h2
      omega
    have e1 := g2.s
    have e2 := g2.at_
    have e3 := g2.e
    rw [hst.s, c1.s] at e1
    rw [hat] at e2
    rw [c1.me] at e3
    cases R
    subst e1 e2 e3
    unfold Mr
    simp
  have hm : XRd.misc decX f'' R = Mr (aheadT ++ b ++ behindT) [] R.out R.op R.run := by
    obtain ⟨g, rfl⟩ : ∃ g, f'' = g + 2 := ⟨f'' - 2, by omega⟩
    rw [hR]
    show XRd.misc decX (g + 2) (Mr (aheadT ++ b) behindT R.out R.op R.run) = Mr _ [] R.out R.op R.run
    have h1 := Mr.blanks (x := [10]) (p := aheadT ++ b) (t := 60 :: 33 :: 45 :: 45 :: ([] ++ 45 :: 45 :: 62 :: [])) (out := R.out) (op := R.op) (run := R.run) (by decide) (.cons (by decide))
    have h2 := Mr.comment (x := []) (p := aheadT ++ b ++ [10]) (t := []) (out := R.out) (op := R.op) (run := R.run) (by decide +kernel) (noM_head (by decide))
    unfold XRd.misc
    rw [if_neg (fun h => h rfl), show (Mr (aheadT ++ b) behindT R.out R.op R.run) = Mr (aheadT ++ b) ([10] ++ 60 :: 33 :: 45 :: 45 :: ([] ++ 45 :: 45 :: 62 :: [])) R.out R.op R.run from rfl, h1]
    dsimp only
    rw [Mr.rest, if_neg (show ¬ XRd.isPre [60, 33] (60 :: 33 :: 45 :: 45 :: ([] ++ 45 :: 45 :: 62 :: [])) = false from by decide), h2]
    unfold XRd.misc
    rw [if_neg (fun h => h rfl), Mr.blanks0 .nil]
    dsimp only
    rw [Mr.rest, if_pos (by decide)]
    exact congrArg (fun z => Mr z [] R.out R.op R.run) (by simp [behindT])
  rw [g3, hm] at ht
  have hl2 : (Mr (aheadT ++ b ++ behindT) [] R.out R.op R.run).s.length = (aheadT ++ b ++ behindT).length := by show (_ ++ []).length = _; rw [List.append_nil]
  rw [decide_eq_false (fun h => Nat.lt_irrefl (aheadT ++ b ++ behindT).length (Nat.lt_of_lt_of_eq h.2 hl2)), show ∀ q : XRd, q.failIf false 4 = q from fun _ => rfl, if_neg (fun h => h rfl)] at ht
  rw [ht]
  show (R.out, (0 : Int)) = _
  rw [g2.out, hst.out, c1.out]
def zT : Txt := [60, 122, 47, 62]
/-- one behind another one -/
theorem behind_tok (hl : b.length ≤ 19000) (hb : b = 60 :: d :: u) (hd : d ≠ 63 ∧ d ≠ 33) (hg : b.getLast? = some 62) (he : (tokX b).2 = 0) : (tokX (b ++ zT)).2 ≠ 0 := by
  obtain ⟨hbeg, c1⟩ := tok_parts (by omega) hb hd he
  have hlb : 2 ≤ b.length := by rw [hb]; simp
  have hlen : (b ++ zT).length = b.length + 4 := by simp only [List.length_append]; rfl
  have hs := c1.sim (p := []) (m := zT) (N := (b ++ zT).length + 2) hlb (by omega)
  have hbm : b ++ zT = 60 :: d :: (u ++ zT) := by rw [hb]; rfl
  have hf : XRd.front decX ⟨b ++ zT, 0, 0, [], [], []⟩ = Mr [] (60 :: d :: (u ++ zT)) [] [] [] := by rw [hbm]; exact front_plain hd
  have ht := tok_of (b := b ++ zT) (by omega) hf hbeg rfl
  rw [← hbm] at ht
  generalize XRd.contents decX signS ((b ++ zT).length + 2) (XRd.element decX signS (Mr [] (b ++ zT) [] [] [])) = C' at *
  generalize XRd.contents decX signS (b.length + 2) (XRd.element decX signS (Mr [] b [] [] [])) = C at *
  obtain ⟨f'', R, g1, g2, g3⟩ := hs.misc (f := b.length + 2) (f' := (b ++ zT).length + 2) c1.ok (by omega) (by rw [c1.s]; omega) (fun c hc => by rw [c1.s, hg] at hc; cases hc; decide) c1.me (by rw [c1.s]; exact c1.ma)
  have hst := XRd.stp_misc (f := b.length + 2) decX_ok c1.ok
  have hat : (XRd.misc decX (b.length + 2) C).at_ = b.length := by
    have h1 := c1.ma
    have h2 := hst.ok.le c1.me
    rw [hst.s, c1.s] at h2
    omega
  have e1 := g2.s
  have e2 := g2.at_
  have e3 := g2.e
  rw [hst.s, c1.s] at e1
  rw [hat] at e2
  rw [c1.me] at e3
  have hR : R = Mr b zT R.out R.op R.run := by
    cases R
    subst e1 e2 e3
    unfold Mr
    simp
  have hm : XRd.misc decX f'' R = R := by
    obtain ⟨g, rfl⟩ : ∃ g, f'' = g + 1 := ⟨f'' - 1, by omega⟩
    conv => lhs; rw [hR]
    unfold XRd.misc
    rw [if_neg (fun h => h rfl), show zT = 60 :: [122, 47, 62] from rfl, Mr.blanks0 (.cons (by decide))]
    dsimp only
    rw [Mr.rest, if_pos (by decide)]
    exact hR.symm
  rw [g3, hm] at ht
  rw [decide_eq_true (show R.e = 0 ∧ R.at_ < R.s.length from ⟨e3, by rw [e1, e2]; simp [zT]⟩), show ∀ q : XRd, q.failIf true 4 = q.fail 4 from fun _ => rfl, if_pos (XRd.fail_ne (by decide))] at ht
  rw [ht]
  exact XRd.fail_ne (by decide)
end
section
variable {w0 W W' : World} {G : Nat → Prop} {l R R1 R2 : List As} {RR : Value → World → Prop} {s : Txt} {v : Value} {i n : Nat} {K : Value → Prop}
/-- XmlCuts -/
theorem cuts_spec (hT : XTabs w0) (hv : By w0 v s) {c : Int} (h : St w0 G0 [] W) (k : ∀ W', St w0 G0 [] W' → RR (.bool true) W') : CallF Tryd.prog 5 #[v, .int .i64 c] W RR := by
  refine sh5_calls ?_
  unfold sh5
  refine first_spec hT h fun W h => a_not (iff' ?_)
  have out : ∀ W, St w0 G0 [] W → CallF Tryd.prog 9 #[] W fun t w => RR t w := fun W h => first_spec hT h fun W h => k W h
  refine x_lenS hv (a_gtr (ifd (fun hc => out W h) fun hl => ?_))
  refine a_lss (ifd (fun hc => out W h) fun hc => ?_)
  have hlen : s.length ≤ 9000 := by omega
  refine tokens_spec hT (s := s) h (hv.below h.low) fun v1 W h t1 => a_ext0 (a_ext1 ?_)
  have hab := tokX_ab s
  have htl := XRd.tokens_len (dec := decX) (sgn := signS) (b := s) decX_ok (fun q => part_len)
  have htl' : (tokX s).1.length ≤ 1000000 := by show (XRd.tokens decX signS s).1.length ≤ _; omega
  have hab' : ∀ t ∈ (tokX s).1, t.attrs.length ≤ 1000000 := fun t ht => Nat.le_trans (hab t ht) (by omega)
  have hv' := hv.below h.low
  refine jni (fun vs W' => vs = [v, .int .i64 c, v1] ∧ W' = W ∧ (tokX s).2 = 0 ∧ ∃ d u, s = 60 :: d :: u ∧ (d ≠ 63 ∧ d ≠ 33) ∧ s.getLast? = some 62) ?_ ?_
  · rintro vs W' _ ⟨rfl, rfl, he, d, u, hs, hd, hg⟩
    refine app3 ?_
    have hT1 := xtabs_at hT h
    have h0 := h
    replace h := St.start W'
    refine x_str hv' ?_
    refine a_cat (l := aheadT) (m := s) (by show 11 + s.length ≤ _; omega) ?_
    refine a_cat (m := behindT) (by rw [List.length_append]; show 11 + s.length + 8 ≤ _; omega) ?_
    refine h.ofStr fun v2 W o2 h => ?_
    refine tokens_spec hT1 (s := aheadT ++ s ++ behindT) h (h.rsl (v := v2)) fun v3 W h t3 => a_ext0 (a_ext1 ?_)
    rw [around_tok (by omega) hs hd hg he] at t3 ⊢
    replace h0 := h0.ext h.low
    replace t1 := t1.below h.low
    replace hT1 := xtabs_at hT1 h
    replace hv' := hv'.below h.low
    clear h
    have h := St.start W
    refine x_str hv' ?_
    refine a_cat (m := zT) (by show s.length + 4 ≤ _; omega) ?_
    refine h.ofStr fun v4 W o4 h => ?_
    refine tokens_spec hT1 (s := s ++ zT) h (h.rsl (v := v4)) fun v5 W h t5 => a_ext0 (a_ext1 ?_)
    have hz := behind_tok (by omega) hs hd hg he
    generalize (tokX (s ++ zT)).2 = ez at *
    clear t5
    have hpos : 2 ≤ s.length := by rw [hs]; simp
    refine x_lenS hv' (a_rem64 (by omega) (by omega) ?_)
    have hr1 := Int.emod_nonneg c (b := (s.length : Int)) (by omega)
    have hr2 := Int.emod_lt_of_pos c (b := (s.length : Int)) (by omega)
    obtain ⟨q, hq⟩ : ∃ q : Nat, c % (s.length : Int) = (q : Int) := ⟨(c % (s.length : Int)).toNat, by omega⟩
    rw [hq]
    have hqs : q < s.length := by omega
    refine a_sliceH (SlT.el (P := Tryd.prog) (t := 22)) hv' (by omega) (by omega) fun vn hvn => ?_
    have e1 : (bytesV s).take (q * 1) = bytesV (s.take q) := by rw [Nat.mul_one]; exact List.map_take.symm
    have e2 : (s.take q).length = q := by rw [List.length_take]; omega
    rw [Int.toNat_natCast, e1] at hvn
    have hbnF : ∀ {w}, Sl w 1 vn q (bytesV (s.take q)) → By w vn (s.take q) := fun hh => by
      unfold By
      rw [e2]
      exact hh
    have hbn := hbnF hvn
    have hbn' := hbn.below h.low
    refine tokens_spec hT1 (s := s.take q) h hbn' fun v6 W h t6 => a_ext0 (a_ext1 ?_)
    have hcut := cut_tok (b := s) (by omega) hs hd he hqs
    have hab2 := tokX_ab (s.take q)
    have htl2 := XRd.tokens_len (dec := decX) (sgn := signS) (b := s.take q) decX_ok (fun q => part_len)
    have hql : (s.take q).length = q := by rw [List.length_take]; omega
    have htl2' : (tokX (s.take q)).1.length ≤ 1000000 := by show (XRd.tokens decX signS (s.take q)).1.length ≤ _; omega
    have hab2' : ∀ t ∈ (tokX (s.take q)).1, t.attrs.length ≤ 1000000 := fun t ht => Nat.le_trans (hab2 t ht) (by omega)
    replace h0 := h0.ext h.low
    replace t1 := t1.below h.low
    replace t3 := t3.below h.low
    replace hbn := hbn.below h.low
    replace hT1 := xtabs_at hT1 h
    clear h hbn' hvn hv'
    generalize W = W5 at *
    have h := St.start W5
    refine jni (fun vs W' => vs = [v1, v3, .int .i64 0, .int .i64 ez] ∧ St W5 G0 [] W') ?_ ?_
    · rintro vs W _ ⟨rfl, h⟩
      refine app4 ?_
      refine first_spec hT1 h fun W h => ift ?_
      refine w_eql (ifd_pos rfl ?_)
      refine plain_spec (t3.below h.low) htl' hab' (St.start W) fun v7 W7 h7 t7 => ?_
      refine plain_spec ((t1.below h.low).below h7.low) htl' hab' (St.start W7) fun v8 W8 h8 t8 => ?_
      refine same_spec (t7.below h8.low) t8 htl' hab' (St.start W8) fun W9 h9 => ?_
      rw [decide_eq_true rfl]
      refine ift (w_neq ?_)
      rw [decide_eq_true hz]
      exact k _ ((((h0.ext h.low).ext h7.low).ext h8.low).ext h9.low)
    · refine w_eql (ifd (fun hk => ?_) fun hk => ⟨rfl, h⟩)
      obtain ⟨g1, g2⟩ := hcut hk
      refine plain_spec t6 htl2' hab2' (St.start W5) fun v7 W7 h7 t7 => ?_
      refine plain_spec (t1.below h7.low) htl' hab' (St.start W7) fun v8 W8 h8 t8 => ?_
      refine same_spec (t7.below h8.low) t8 htl2' hab2' (St.start W8) fun W9 h9 => ?_
      rw [decide_eq_true g1]
      refine a_not (iff' ?_)
      refine x_lenS hbn (w_eql (ifd_neg (fun hx => g2 (List.eq_nil_of_length_eq_zero (by omega))) ?_))
      exact ⟨rfl, ((h.ext h7.low).ext h8.low).ext h9.low⟩
  · refine w_neq (ifd (fun he => out W h) fun he => ?_)
    have he := Classical.not_not.1 he
    refine x_lenS hv (w_eql (ifd (fun hc => out W h) fun hn0 => ?_))
    have hne : s ≠ [] := fun e => hn0 (by rw [e]; rfl)
    have hpos := List.length_pos_iff.2 hne
    refine x_lenS hv (a_sub64 (by omega) (by omega) ?_)
    rw [show ((s.length : Int) - 1) = ((s.length - 1 : Nat) : Int) by omega]
    have ge : s[s.length - 1]? = some s[s.length - 1] := List.getElem?_eq_getElem (by omega)
    have hlast : s.getLast? = some s[s.length - 1] := by rw [List.getLast?_eq_getElem?, ge]
    generalize s[s.length - 1] = ce at ge hlast
    refine x_at hv' (bytesV_at ge) (w_neC 62 rfl (ifd (fun hc => out W h) fun h62 => ?_))
    obtain ⟨c0, u0, hs0⟩ : ∃ c0 u0, s = c0 :: u0 := by cases s; exact absurd rfl hne; exact ⟨_, _, rfl⟩
    refine x_at (i := 0) hv' (bytesV_at (x := c0) (by rw [hs0]; rfl)) (w_neC 60 rfl (ifd (fun hc => out W h) fun h60 => ?_))
    refine x_lenS hv (a_gtr (ifd (fun h1 => ?_) fun h1 => ?_))
    · obtain ⟨d, u, hs1⟩ : ∃ d u, u0 = d :: u := by cases u0; (rw [hs0] at h1; simp at h1); exact ⟨_, _, rfl⟩
      refine x_at (i := 1) hv' (bytesV_at (x := d) (by rw [hs0, hs1]; rfl)) (w_eqC 63 rfl (ifd (fun hc => out W h) fun h63 => ?_))
      refine x_at (i := 1) hv' (bytesV_at (x := d) (by rw [hs0, hs1]; rfl)) (w_eqC 33 rfl (ifd (fun hc => out W h) fun h33 => ?_))
      refine ⟨rfl, rfl, he, d, u, by rw [hs0, hs1, Classical.not_not.1 h60], ⟨h63, h33⟩, by rw [hlast, Classical.not_not.1 h62]⟩
    · exfalso
      have hu0 : u0 = [] := by rw [hs0] at h1; cases u0; rfl; simp at h1; omega
      rw [hs0, hu0] at hlast
      have e1 : c0 = ce := by simpa using hlast
      rw [← e1] at h62
      rw [Classical.not_not.1 h60] at h62
      exact absurd (Classical.not_not.1 h62) (by decide)
end
end Go.Proofs.YtlflpbflpcmckaaDoor
