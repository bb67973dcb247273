/-
  XML: Tokens, and what the chapter's examples fix: what each answers.
-/
import Derived.Test.YtlflpbflpcmckaaDoorXmN
import Derived.Test.YtlflpbflpcmckaaDoorShD
namespace Go.Ez.XRd
open Go Go.Ez
set_option linter.unusedSimpArgs false
set_option linter.unusedVariables false
variable {r r' r'' : XRd} {n n' : Nat} {p : Txt} {dec : Txt → Int × Nat} {sgn : Int → Txt × Bool}
/-- how much a step makes -/
structure Bnd (n : Nat) (r r' : XRd) : Prop where
  s : r'.s = r.s
  ok : Ok r'
  out : r'.out.length ≤ r.out.length + n
  op : r'.op.length ≤ max r.op.length 64
  run : r'.run.length ≤ r.run.length + (r.s.length + 4)
  up : r.at_ ≤ r'.at_
theorem Stp.bnd (h : Stp r r') : Bnd 0 r r' := ⟨h.s, h.ok, by rw [h.out]; exact Nat.le_refl _, by rw [h.op]; omega, by rw [h.run]; omega, h.up⟩
theorem Bnd.mono (h : Bnd n r r') (hn : n ≤ n') : Bnd n' r r' := ⟨h.s, h.ok, by have := h.out; omega, h.op, h.run, h.up⟩
theorem Stp.then (h : Stp r r') (h' : Bnd n r' r'') : Bnd n r r'' := ⟨h'.s.trans h.s, h'.ok, by have := h'.out; rw [h.out] at this; exact this, by have := h'.op; rw [h.op] at this; exact this, by have := h'.run; rw [h.run, h.s] at this; exact this, Nat.le_trans h.up h'.up⟩
theorem space_same (f : XFr) (pre : Txt) (r : XRd) : (space f pre r).2.s = r.s ∧ (space f pre r).2.at_ = r.at_ ∧ (space f pre r).2.out = r.out ∧ (space f pre r).2.op = r.op ∧ (space f pre r).2.run = r.run := by
  rw [space_eq]
  split
  · exact ⟨rfl, rfl, rfl, rfl, rfl⟩
  · unfold fail; split <;> exact ⟨rfl, rfl, rfl, rfl, rfl⟩
theorem attsOf_same {f : XFr} : ∀ {l : List XPr} {o : List XAt} {r : XRd}, (attsOf f l o r).2.s = r.s ∧ (attsOf f l o r).2.at_ = r.at_ ∧ (attsOf f l o r).2.out = r.out ∧ (attsOf f l o r).2.op = r.op ∧ (attsOf f l o r).2.run = r.run
  | [], o, r => ⟨rfl, rfl, rfl, rfl, rfl⟩
  | p :: l, o, r => by
    unfold attsOf
    split
    · exact attsOf_same
    · split
      · have h1 := attsOf_same (f := f) (l := l) (o := o ++ [⟨(space f p.pre r).1, p.name, p.value⟩]) (r := (space f p.pre r).2)
        have h2 := space_same f p.pre r
        exact ⟨h1.1.trans h2.1, h1.2.1.trans h2.2.1, h1.2.2.1.trans h2.2.2.1, h1.2.2.2.1.trans h2.2.2.2.1, h1.2.2.2.2.trans h2.2.2.2.2⟩
      · exact attsOf_same
theorem begin_same (nm : Txt × Txt) (l : List XPr) (r : XRd) : (begin_ nm l r).2.s = r.s ∧ (begin_ nm l r).2.at_ = r.at_ ∧ (begin_ nm l r).2.out.length = r.out.length + 1 ∧ (begin_ nm l r).2.op = r.op ∧ (begin_ nm l r).2.run = r.run := by
  have h1 := space_same ⟨nm.1, nm.2, spacesOf l []⟩ nm.1 r
  have h2 := attsOf_same (f := ⟨nm.1, nm.2, spacesOf l []⟩) (l := l) (o := []) (r := (space ⟨nm.1, nm.2, spacesOf l []⟩ nm.1 r).2)
  refine ⟨h2.1.trans h1.1, h2.2.1.trans h1.2.1, ?_, h2.2.2.2.1.trans h1.2.2.2.1, h2.2.2.2.2.trans h1.2.2.2.2⟩
  unfold begin_
  dsimp only
  rw [List.length_append, h2.2.2.1, h1.2.2.1]; rfl
theorem close_same (f : XFr) (r : XRd) : (close f r).s = r.s ∧ (close f r).at_ = r.at_ ∧ (close f r).out.length = r.out.length + 1 ∧ (close f r).op = r.op ∧ (close f r).run = r.run := by
  have h1 := space_same f f.pre r
  refine ⟨h1.1, h1.2.1, ?_, h1.2.2.2.1, h1.2.2.2.2⟩
  unfold close
  dsimp only
  rw [List.length_append, h1.2.2.1]; rfl
theorem bnd_element (hd : DecOk dec) (hl : r.at_ + 1 ≤ r.s.length) : Bnd 2 r (element dec sgn r) ∧ r.at_ < (element dec sgn r).at_ := by
  unfold element
  dsimp only
  have hon := stp_on (r := r) (n := 1) hl
  have hup : r.at_ < (r.on 1).at_ := Nat.lt_succ_self _
  have hq : (r.on 1).at_ ≤ (r.on 1).s.length := hl
  generalize r.on 1 = q at *
  split
  · have h1 := hon.trans (stp_fail (c := 10) (by decide) hon.ok.lt)
    exact ⟨h1.bnd.mono (by omega), by rw [fail_at]; exact hup⟩
  rename_i hdeep
  have h1 := stp_full hq
  have h2 := h1.trans (stp_attrs (dec := dec) (sgn := sgn) hd h1.ok)
  split
  · exact ⟨(hon.trans h2).bnd.mono (by omega), Nat.lt_of_lt_of_le hup h2.up⟩
  have h3 := stp_see (n := 0) h2.ok
  have h4 : Stp (attrs dec sgn q.full.2).2 (if ((attrs dec sgn q.full.2).2.see 0).1 = 47 then ((attrs dec sgn q.full.2).2.see 0).2.on 1 else ((attrs dec sgn q.full.2).2.see 0).2) := by
    split
    · rename_i hc
      obtain ⟨c, hs, hx⟩ := see_c (r := (attrs dec sgn q.full.2).2) (n := 0) (by rw [hc]; decide)
      have := lt_of_at hs
      rw [hx]
      exact stp_on (by omega)
    · exact h3
  have h5 := hon.trans (h2.trans (h4.trans (stp_wants (p := [62]) h4.ok)))
  have hup5 := Nat.lt_of_lt_of_le hup (h2.trans (h4.trans (stp_wants (p := [62]) h4.ok))).up
  generalize wants [62] (if ((attrs dec sgn q.full.2).2.see 0).1 = 47 then ((attrs dec sgn q.full.2).2.see 0).2.on 1 else ((attrs dec sgn q.full.2).2.see 0).2) = z at *
  generalize ((attrs dec sgn q.full.2).2.see 0).1 = x at *
  by_cases hz : z.e ≠ 0
  · rw [if_pos hz]
    exact ⟨h5.bnd.mono (by omega), hup5⟩
  rw [if_neg hz]
  have hb := begin_same q.full.1 (attrs dec sgn q.full.2).1 z
  have hzl := h5.ok.le (Classical.not_not.1 hz)
  have hop : q.op = r.op := hon.op
  have g1 := h5.s; have g2 := h5.out; have g3 := h5.op; have g4 := h5.run
  generalize (begin_ q.full.1 (attrs dec sgn q.full.2).1 z).1 = f at *
  generalize (begin_ q.full.1 (attrs dec sgn q.full.2).1 z).2 = y at *
  obtain ⟨b1, b2, b3, b4, b5⟩ := hb
  split
  · have hc := close_same f y
    obtain ⟨c1, c2, c3, c4, c5⟩ := hc
    refine ⟨⟨by rw [c1, b1, g1], .of_le (by rw [c1, c2, b1, b2]; exact hzl), by rw [c3, b3, g2]; omega, by rw [c4, b4, g3]; omega, by rw [c5, b5, g4]; omega, by rw [c2, b2]; omega⟩, by rw [c2, b2]; exact hup5⟩
  · refine ⟨⟨by show y.s = r.s; rw [b1, g1], .of_le (by show y.at_ ≤ y.s.length; rw [b1, b2]; exact hzl), by show y.out.length ≤ _; rw [b3, g2]; omega, ?_, by show y.run.length ≤ _; rw [b5, g4]; omega, by show r.at_ ≤ y.at_; rw [b2]; omega⟩, by show r.at_ < y.at_; rw [b2]; exact hup5⟩
    show (y.op ++ [f]).length ≤ _
    rw [List.length_append, List.length_singleton, b4, g3]
    rw [hop] at hdeep
    omega
theorem bnd_end (hl : r.at_ + 2 ≤ r.s.length) : Bnd 1 r (end_ r) ∧ r.at_ < (end_ r).at_ := by
  unfold end_
  dsimp only
  have hon := stp_on (r := r) (n := 2) hl
  have hup : r.at_ < (r.on 2).at_ := by show r.at_ < r.at_ + 2; omega
  have hq : (r.on 2).at_ ≤ (r.on 2).s.length := hl
  generalize (r.on 2).op.getLastD default = f
  generalize r.on 2 = q at *
  have h1 := stp_full hq
  generalize decide (q.full.2.e = 0 ∧ ¬ (q.full.1.1 = f.pre ∧ q.full.1.2 = f.name)) = b at *
  have h3 := h1.trans (stp_failIf (b := b) (c := 4) (by decide) h1.ok)
  have h4 := h3.trans (stp_blanks h3.ok)
  have h5 := hon.trans (h4.trans (stp_wants (p := [62]) h4.ok))
  have hup2 := Nat.lt_of_lt_of_le hup (h4.trans (stp_wants (p := [62]) h4.ok)).up
  generalize wants [62] (q.full.2.failIf b 4).blanks.2 = w at *
  have g1 := h5.s; have g2 := h5.out; have g3 := h5.op; have g4 := h5.run
  split
  · rename_i he
    obtain ⟨c1, c2, c3, c4, c5⟩ := close_same f w
    refine ⟨⟨by show (close f w).s = r.s; rw [c1, g1], .of_le (by show (close f w).at_ ≤ (close f w).s.length; rw [c1, c2]; exact h5.ok.le he), by show (close f w).out.length ≤ _; rw [c3, g2]; exact Nat.le_refl _, ?_, by show (close f w).run.length ≤ _; rw [c5, g4]; omega, by show r.at_ ≤ (close f w).at_; rw [c2]; omega⟩, by show r.at_ < (close f w).at_; rw [c2]; exact hup2⟩
    show (close f w).op.dropLast.length ≤ _
    rw [List.length_dropLast, c4, g3]; omega
  · exact ⟨h5.bnd.mono (by omega), hup2⟩
theorem flush_same (r : XRd) : r.flush.at_ = r.at_ ∧ r.flush.s = r.s ∧ r.flush.op = r.op ∧ r.flush.out.length ≤ r.out.length + 1 ∧ r.flush.run = [] := by
  unfold flush
  split
  · unfold fail; split <;> exact ⟨rfl, rfl, rfl, Nat.le_succ _, rfl⟩
  · split
    · exact ⟨rfl, rfl, rfl, by simp, rfl⟩
    · exact ⟨rfl, rfl, rfl, Nat.le_succ _, rfl⟩
theorem bnd_content (hd : DecOk dec) (hpl : ∀ q : XRd, (part dec sgn q).1.length ≤ q.s.length + 4) (hok : Ok r) : Bnd 3 r (content dec sgn r) ∧ Adv r (content dec sgn r) := by
  unfold content
  dsimp only
  have h1 := stp_see (n := 0) hok
  have add : ∀ (q : XRd) (t : Txt), Stp r q → t.length ≤ r.s.length + 4 → Bnd 3 r { q with run := q.run ++ t } := fun q t h ht =>
    ⟨h.s, ⟨h.ok.lt, h.ok.le⟩, by show q.out.length ≤ _; rw [h.out]; omega, by show q.op.length ≤ _; rw [h.op]; omega, by show (q.run ++ t).length ≤ _; rw [List.length_append, h.run]; omega, h.up⟩
  split
  · rename_i hc
    have h2 := h1.trans (stp_part (dec := dec) (sgn := sgn) hd h1.ok)
    have h3 : Adv r (part dec sgn (r.see 0).2).2 := h1.adv (adv_part hd h1.ok)
    exact ⟨add _ _ h2 (by have := hpl (r.see 0).2; rw [see_s] at this; exact this), fun he => h3 he⟩
  rename_i hc
  have hc60 := Classical.not_not.1 hc
  obtain ⟨c, hs, hx⟩ := see_c (r := r) (n := 0) (by rw [hc60]; decide)
  rw [hx]
  dsimp only
  have hy := stp_see (n := 1) hok
  split
  · rename_i hc
    exact ⟨hy.bnd.mono (by omega), fun he => absurd he hc⟩
  rename_i hc
  obtain ⟨d, hs1, hx1⟩ := see_e (Classical.not_not.1 hc)
  rw [hx1]
  dsimp only
  have hlt := lt_of_at hs1
  have hz := stp_see (n := 2) hok
  split
  · rename_i hc
    obtain ⟨c2, hs2, hx2⟩ := see_c (r := r) (n := 2) (by rw [hc.2]; decide)
    rw [hx2]
    dsimp only
    have h2 := stp_wants (p := [60, 33, 91, 67, 68, 65, 84, 65, 91]) hok
    have h3 := h2.trans (stp_til (p := [93, 93, 62]) hd h2.ok)
    have h4 : Adv r (til dec [93, 93, 62] (wants [60, 33, 91, 67, 68, 65, 84, 65, 91] r)).2 := (adv_wants hok).stp (stp_til (p := [93, 93, 62]) hd h2.ok)
    refine ⟨add _ _ h3 ?_, fun he => h4 he⟩
    unfold til
    split
    · exact Nat.zero_le _
    · dsimp only
      rw [List.length_take, List.length_drop, h2.s]; omega
  split
  · have h2 := hz.trans (stp_comment hd hz.ok)
    have h3 : Adv r (comment dec (r.see 2).2) := hz.adv (adv_comment hd hz.ok)
    exact ⟨h2.bnd.mono (by omega), h3⟩
  obtain ⟨f1, f2, f3, f4, f5⟩ := flush_same r
  have fl : ∀ {n : Nat} {r' : XRd}, n ≤ 2 → Bnd n r.flush r' → Bnd 3 r r' := fun {n r'} hn h =>
    ⟨h.s.trans f2, h.ok, by have := h.out; omega, by have := h.op; rw [f3] at this; exact this, by have := h.run; rw [f5, f2] at this; simp at this; omega, by have := h.up; rw [f1] at this; exact this⟩
  split
  · obtain ⟨g1, g2⟩ := bnd_end (r := r.flush) (by rw [f1, f2]; omega)
    exact ⟨fl (by decide) g1, fun _ => by rw [f1] at g2; exact g2⟩
  split
  · obtain ⟨g1, g2⟩ := bnd_element (sgn := sgn) (r := r.flush) hd (by rw [f1, f2]; omega)
    exact ⟨fl (by decide) g1, fun _ => by rw [f1] at g2; exact g2⟩
  · exact ⟨(stp_fail (by decide) hok.lt).bnd.mono (by omega), fun he => absurd he (fail_ne (by decide))⟩
theorem contents_out (hd : DecOk dec) (hpl : ∀ q : XRd, (part dec sgn q).1.length ≤ q.s.length + 4) : ∀ {f : Nat} {r : XRd}, Ok r → (contents dec sgn f r).out.length ≤ r.out.length + 3 * f ∧ Ok (contents dec sgn f r)
  | 0, r, h => ⟨Nat.le_refl _, h⟩
  | f + 1, r, h => by
    unfold contents
    split
    · have h1 := (bnd_content (sgn := sgn) hd hpl h).1
      obtain ⟨h2, h3⟩ := contents_out hd hpl (f := f) h1.ok
      exact ⟨by have := h1.out; omega, h3⟩
    · exact ⟨by omega, h⟩
theorem tokens_len (hd : DecOk dec) (hpl : ∀ q : XRd, (part dec sgn q).1.length ≤ q.s.length + 4) {b : Txt} : (tokens dec sgn b).1.length ≤ 3 * b.length + 8 := by
  unfold tokens
  split
  · exact Nat.zero_le _
  dsimp only
  have h1 := stp_front (dec := dec) (r := ⟨b, 0, 0, [], [], []⟩) hd (Nat.zero_le _)
  generalize front dec ⟨b, 0, 0, [], [], []⟩ = r at *
  have h2 := h1.trans (stp_see (n := 0) h1.ok)
  generalize decide ((r.see 0).2.e = 0 ∧ (r.see 0).1 ≠ 60) = b1
  have h3 := h2.trans (stp_failIf (b := b1) (c := 4) (by decide) h2.ok)
  generalize hq1 : (r.see 0).2.failIf b1 4 = q1 at *
  have h4 := h3.trans (stp_see (n := 1) h3.ok)
  generalize (decide ((q1.see 1).2.e = 0) && !begs (q1.see 1).1) = b2
  have h5 := h4.trans (stp_failIf (b := b2) (c := 4) (by decide) h4.ok)
  have hsee : ((q1.see 1).2.failIf b2 4).e = 0 → ((q1.see 1).2.failIf b2 4).at_ + 1 ≤ ((q1.see 1).2.failIf b2 4).s.length := fun he => by
    have := (stp_failIf (b := b2) (c := 4) (by decide) h4.ok).e0 he
    obtain ⟨c, hc, _⟩ := see_e this
    have hlt := lt_of_at hc
    rw [failIf_at, see_at, failIf_s, see_s]; omega
  generalize (q1.see 1).2.failIf b2 4 = q2 at *
  have hb : Bnd 2 q2 (if q2.e = 0 then element dec sgn q2 else q2) := by
    split
    · rename_i he
      exact (bnd_element (sgn := sgn) hd (hsee he)).1
    · exact (Stp.refl h5.ok).bnd.mono (by omega)
  generalize (if q2.e = 0 then element dec sgn q2 else q2) = q3 at *
  obtain ⟨g1, g2⟩ := contents_out (sgn := sgn) hd hpl (f := b.length + 2) hb.ok
  have h6 := stp_misc (f := b.length + 2) hd g2
  generalize misc dec (b.length + 2) (contents dec sgn (b.length + 2) q3) = z at *
  generalize decide (z.e = 0 ∧ z.at_ < z.s.length) = b3
  have h7 := h6.trans (stp_failIf (b := b3) (c := 4) (by decide) h6.ok)
  have hout : q2.out = [] := h5.out
  have := hb.out
  rw [hout] at this
  split
  · exact Nat.zero_le _
  · dsimp only
    rw [h7.out]
    simp only [List.length_nil] at this
    omega
end Go.Ez.XRd
