/-
  XML, plainly: what a reader of tokens does to its tokens: they open and close in one another.
-/
import Derived.Test.YtlflpbflpcmckaaDoorXmQ
namespace Go.Ez.XRd
open Go Go.Ez
set_option linter.unusedSimpArgs false
set_option linter.unusedVariables false
variable {r r' r'' : XRd} {n : Nat} {p : Txt} {dec : Txt → Int × Nat} {sgn : Int → Txt × Bool}
/-- what a prefix stands for -/
def spaceV (f : XFr) (pre : Txt) (op : List XFr) : Option Txt :=
  if pre = own then some own else match lookS pre f.spaces with
  | some s => some s
  | none => match near pre op.reverse with
    | some s => some s
    | none => if pre ≠ [] then none else some []
theorem space_eq (f : XFr) (pre : Txt) (r : XRd) : space f pre r = match spaceV f pre r.op with | some s => (s, r) | none => ([], r.fail 4) := by
  unfold space spaceV
  by_cases h1 : pre = own
  · rw [if_pos h1, if_pos h1]
  · rw [if_neg h1, if_neg h1]
    generalize lookS pre f.spaces = a
    generalize near pre r.op.reverse = b
    cases a with
    | some s => rfl
    | none =>
      cases b with
      | some s => rfl
      | none => by_cases h : pre = [] <;> simp [h, failIf]
theorem space_ok {f : XFr} {pre : Txt} (h : (space f pre r).2.e = 0) : ∃ s, spaceV f pre r.op = some s ∧ space f pre r = (s, r) := by
  rw [space_eq] at h ⊢
  cases hx : spaceV f pre r.op with
  | some s => exact ⟨s, rfl, rfl⟩
  | none => rw [hx] at h; exact absurd h (fail_ne (by decide))
theorem stp_space {f : XFr} {pre : Txt} (h : Ok r) : Stp r (space f pre r).2 := by
  rw [space_eq]
  split
  · exact Stp.refl h
  · exact stp_fail (by decide) h.lt
theorem spaceV_self (f : XFr) (op : List XFr) : spaceV f f.pre (op ++ [f]) = spaceV f f.pre op := by
  unfold spaceV
  split
  · rfl
  · split
    · rfl
    · rename_i h
      rw [List.reverse_append, List.reverse_singleton, List.singleton_append]
      conv => lhs; unfold near
      rw [h]
theorem stp_attsOf {f : XFr} : ∀ {l : List XPr} {o : List XAt} {r : XRd}, Ok r → Stp r (attsOf f l o r).2
  | [], o, r, h => Stp.refl h
  | p :: l, o, r, h => by
    unfold attsOf
    split
    · exact stp_attsOf h
    · split
      · have h1 := stp_space (f := f) (pre := p.pre) h
        exact h1.trans (stp_attsOf h1.ok)
      · exact stp_attsOf h
/-- a token behind others -/
def lim (st : List XTk) : Option (List XTk) := if 64 < st.length then none else some st
def chkStep (done st : List XTk) (t : XTk) : Option (List XTk) :=
  if t.kind = 1 then (if (st = [] ∧ done ≠ []) ∨ t.name = [] then none else lim (st ++ [t]))
  else if t.kind = 2 then (match st.getLast? with | none => none | some u => if u.name ≠ t.name ∨ u.space ≠ t.space then none else lim st.dropLast)
  else if t.kind = 3 then (if st = [] ∨ t.text = [] ∨ 8000 < t.text.length ∨ done.getLast?.map XTk.kind = some 3 then none else lim st)
  else none
def chk : List XTk → List XTk → List XTk → Option (List XTk)
  | [], _, st => some st
  | t :: l, done, st => match chkStep done st t with
    | none => none
    | some st => chk l (done ++ [t]) st
theorem chk_snoc : ∀ {l done st : List XTk} {t : XTk}, chk (l ++ [t]) done st = (chk l done st).bind fun st => chkStep (done ++ l) st t
  | [], done, st, t => by
    rw [List.nil_append, List.append_nil]
    show (match chkStep done st t with | none => none | some st => chk [] (done ++ [t]) st) = chkStep done st t
    cases chkStep done st t <;> rfl
  | u :: l, done, st, t => by
    rw [List.cons_append]
    unfold chk
    cases h : chkStep done st u with
    | none => rfl
    | some st' =>
      simp only
      rw [chk_snoc, List.append_assoc, List.singleton_append]
/-- the open tokens are the open elements -/
structure Mt (st : List XTk) (op : List XFr) : Prop where
  len : st.length = op.length
  at_ : ∀ i t f, st[i]? = some t → op[i]? = some f → t.name = f.name ∧ spaceV f f.pre (op.take i) = some t.space
structure Tinv (r : XRd) (st : List XTk) : Prop where
  chk : chk r.out [] [] = some st
  mt : Mt st r.op
  low : st.length ≤ 64
theorem Mt.push {st : List XTk} {op : List XFr} {t : XTk} {f : XFr} (h : Mt st op) (hn : t.name = f.name) (hs : spaceV f f.pre op = some t.space) : Mt (st ++ [t]) (op ++ [f]) := by
  refine ⟨by simp [h.len], fun i u g hu hg => ?_⟩
  have hl := h.len
  by_cases hi : i < op.length
  · rw [List.getElem?_append_left (by omega)] at hu hg
    rw [List.take_append_of_le_length (by omega)]
    exact h.at_ i u g hu hg
  · have h1 := (List.getElem?_eq_some_iff.1 hg).1
    rw [List.length_append, List.length_singleton] at h1
    have hi' : i = op.length := by omega
    subst hi'
    rw [List.getElem?_append_right (by omega), hl, Nat.sub_self] at hu
    rw [List.getElem?_append_right (by omega), Nat.sub_self] at hg
    cases hu; cases hg
    rw [List.take_left]
    exact ⟨hn, hs⟩
theorem Mt.pop {st : List XTk} {op : List XFr} {f : XFr} (h : Mt st (op ++ [f])) : ∃ st' t, st = st' ++ [t] ∧ Mt st' op ∧ t.name = f.name ∧ spaceV f f.pre op = some t.space := by
  have hl := h.len
  rw [List.length_append, List.length_singleton] at hl
  have hne : st ≠ [] := fun e => by rw [e] at hl; simp at hl
  refine ⟨st.dropLast, st.getLast hne, (List.dropLast_concat_getLast hne).symm, ⟨by rw [List.length_dropLast]; omega, fun i u g hu hg => ?_⟩, ?_⟩
  · have h1 := (List.getElem?_eq_some_iff.1 hg).1
    have := h.at_ i u g (by rw [List.getElem?_dropLast] at hu; split at hu; exact hu; cases hu) (by rw [List.getElem?_append_left h1]; exact hg)
    rw [List.take_append_of_le_length (by omega)] at this
    exact this
  · have := h.at_ op.length (st.getLast hne) f (by rw [List.getLast_eq_getElem, List.getElem?_eq_getElem (by omega)]; simp [hl]) (by rw [List.getElem?_append_right (by omega), Nat.sub_self]; rfl)
    rw [List.take_left] at this
    exact this
/-- tokens behind which text may stand -/
def Fre (out : List XTk) : Prop := out.getLast?.map XTk.kind ≠ some 3
theorem name_ne (h : r.nameOf.2.e = 0) : r.nameOf.1 ≠ [] := by
  have h1 : ((r.see 0).2.failIf (decide ((r.see 0).2.e = 0) && !begs (r.see 0).1) 4).e = 0 := h
  obtain ⟨h2, h3⟩ := failIf_e (by decide) h1
  rw [h3] at h1
  obtain ⟨c, hc, hx⟩ := see_e h1
  rw [hx] at h2
  have hb : begs c = true := by
    rw [hx] at h1
    have h1' : r.e = 0 := h1
    simpa [h1'] using h2
  have hr : r.rest = c :: r.s.drop (r.at_ + 1) := by
    unfold rest
    rw [Nat.add_zero] at hc
    exact (List.drop_eq_getElem_cons (List.getElem?_eq_some_iff.1 hc).1).trans (by rw [(List.getElem?_eq_some_iff.1 hc).2])
  show r.rest.takeWhile goes ≠ []
  rw [hr, List.takeWhile_cons, show goes c = true by unfold goes; simp [hb]]
  simp
theorem full_ne (hl : r.at_ ≤ r.s.length) (h : r.full.2.e = 0) : r.full.1.2 ≠ [] := by
  unfold full at h ⊢
  dsimp only at h ⊢
  split
  · rename_i hc
    rw [if_pos hc] at h
    exact name_ne h
  · rename_i hc
    rw [if_neg hc] at h
    exact name_ne h
theorem begin_out {name : Txt × Txt} {l : List XPr} (hr : Ok r) (he : (begin_ name l r).2.e = 0) : ∃ s at', spaceV (begin_ name l r).1 name.1 r.op = some s ∧ (begin_ name l r).2 = { r with out := r.out ++ [⟨1, s, name.2, [], at'⟩], e := 0 } ∧ r.e = 0 ∧ (begin_ name l r).1.pre = name.1 ∧ (begin_ name l r).1.name = name.2 := by
  unfold begin_ at he ⊢
  dsimp only at he ⊢
  generalize hf : (⟨name.1, name.2, spacesOf l []⟩ : XFr) = f at *
  have h1 := stp_space (f := f) (pre := name.1) hr
  have h2 := stp_attsOf (f := f) (l := l) (o := []) h1.ok
  have h3 := h2.e0 he
  obtain ⟨s, hs, hx⟩ := space_ok h3
  rw [hx] at h2 ⊢
  rw [hx] at h3
  rw [hx] at he
  dsimp only at h2 h3 he ⊢
  refine ⟨s, (attsOf f l [] r).1, hs, ?_, h3, by first | rfl | rw [← hf], by first | rfl | rw [← hf]⟩
  have : (attsOf f l [] r).2 = { r with e := 0, at_ := (attsOf f l [] r).2.at_ } := by
    have e1 := h2.s; have e2 := h2.out; have e3 := h2.op; have e4 := h2.run
    generalize (attsOf f l [] r).2 = q at *
    cases q; cases r
    simp_all
  have hat : (attsOf f l [] r).2.at_ = r.at_ := by
    have : ∀ (l : List XPr) (o : List XAt) (r : XRd), (attsOf f l o r).2.at_ = r.at_ := by
      intro l
      induction l with
      | nil => intro o r; rfl
      | cons p l ih =>
        intro o r
        unfold attsOf
        split
        · exact ih _ _
        · split
          · rw [ih, space_eq]; split; rfl; exact fail_at
          · exact ih _ _
    exact this l [] r
  rw [this, hat]
theorem close_out {f : XFr} (he : (close f r).e = 0) : ∃ s, spaceV f f.pre r.op = some s ∧ close f r = { r with out := r.out ++ [⟨2, s, f.name, [], []⟩] } := by
  unfold close at he ⊢
  obtain ⟨s, hs, hx⟩ := space_ok (f := f) (pre := f.pre) (r := r) he
  refine ⟨s, hs, ?_⟩
  rw [hx]
theorem chk_open {st : List XTk} {t : XTk} {out : List XTk} (h : chk out [] [] = some st) (hk : t.kind = 1) (hn : t.name ≠ []) (h0 : out ≠ [] → st ≠ []) (hl : st.length < 64) : chk (out ++ [t]) [] [] = some (st ++ [t]) := by
  rw [chk_snoc, h]
  show chkStep ([] ++ out) st t = _
  unfold chkStep
  rw [if_pos hk, if_neg (by rintro (⟨a, b⟩ | a); exact h0 b a; exact hn a)]
  unfold lim
  rw [if_neg (by rw [List.length_append, List.length_singleton]; omega)]
theorem chk_close {st : List XTk} {t u : XTk} {out : List XTk} (h : chk out [] [] = some (st ++ [u])) (hk : t.kind = 2) (hn : u.name = t.name) (hs : u.space = t.space) (hl : st.length ≤ 64) : chk (out ++ [t]) [] [] = some st := by
  rw [chk_snoc, h]
  show chkStep ([] ++ out) (st ++ [u]) t = _
  unfold chkStep
  rw [if_neg (by rw [hk]; decide), if_pos hk, List.getLast?_concat]
  simp only
  rw [if_neg (by simp [hn, hs]), List.dropLast_concat]
  unfold lim
  rw [if_neg (by omega)]
theorem chk_text {st : List XTk} {t : XTk} {out : List XTk} (h : chk out [] [] = some st) (hk : t.kind = 3) (h0 : st ≠ []) (hn : t.text ≠ []) (hl : t.text.length ≤ 8000) (hf : Fre out) (hs : st.length ≤ 64) : chk (out ++ [t]) [] [] = some st := by
  rw [chk_snoc, h]
  show chkStep ([] ++ out) st t = _
  unfold chkStep
  rw [if_neg (by rw [hk]; decide), if_neg (by rw [hk]; decide), if_pos hk, List.nil_append, if_neg (by rintro (a | a | a | a); exact h0 a; exact hn a; omega; exact hf a)]
  unfold lim
  rw [if_neg (by omega)]
theorem fre_snoc {out : List XTk} {t : XTk} (h : t.kind ≠ 3) : Fre (out ++ [t]) := by
  unfold Fre
  rw [List.getLast?_concat]
  simpa using h
/-- flush -/
theorem flush_inv {st : List XTk} (h : Tinv r st) (hf : Fre r.out) (h0 : st ≠ []) (he : r.flush.e = 0) : Tinv r.flush st ∧ r.flush.op = r.op ∧ r.flush.s = r.s ∧ r.flush.at_ = r.at_ ∧ r.flush.run = [] ∧ r.flush.out ≠ [] := by
  have hout : r.out ≠ [] := fun e => h0 (by have := h.chk; rw [e] at this; unfold chk at this; cases this; rfl)
  unfold flush at he ⊢
  split
  · rename_i hc
    rw [if_pos hc] at he
    exact absurd he (fail_ne (by decide))
  · rename_i hc
    split
    · rename_i hr
      exact ⟨⟨chk_text h.chk rfl h0 hr (by show r.run.length ≤ 8000; omega) hf h.low, h.mt, h.low⟩, rfl, rfl, rfl, rfl, by simp⟩
    · exact ⟨⟨h.chk, h.mt, h.low⟩, rfl, rfl, rfl, rfl, hout⟩
theorem flush_e0 (he : r.flush.e = 0) : r.e = 0 := by
  unfold flush at he
  split at he
  · exact absurd he (fail_ne (by decide))
  · split at he <;> exact he
/-- what a step within an element, or an element, leaves -/
structure Fin (r r' : XRd) (st' : List XTk) : Prop where
  inv : Tinv r' st'
  fre : Fre r'.out
  s : r'.s = r.s
  more : r.out.length ≤ r'.out.length
  two : r'.op = [] → 2 ≤ r'.out.length
  e : r.e = 0
  ok : Ok r'
  adv : r.at_ < r'.at_
/-- an element's head: what is read ahead of its token -/
theorem element_eq (hd : DecOk dec) (hl : r.at_ + 1 ≤ r.s.length) (he : (element dec sgn r).e = 0) : ∃ (q : XRd) (n : Txt × Txt) (l : List XPr) (single : Bool), Stp r q ∧ q.e = 0 ∧ r.at_ < q.at_ ∧ n.2 ≠ [] ∧ r.op.length < 64 ∧
    element dec sgn r = if single then close (begin_ n l q).1 (begin_ n l q).2 else { (begin_ n l q).2 with op := (begin_ n l q).2.op ++ [(begin_ n l q).1] } := by
  unfold element at he ⊢
  dsimp only at he ⊢
  have hon := stp_on (r := r) (n := 1) hl
  have hup : r.at_ < (r.on 1).at_ := Nat.lt_succ_self _
  have hq : (r.on 1).at_ ≤ (r.on 1).s.length := hl
  have hop : (r.on 1).op = r.op := rfl
  generalize r.on 1 = q at *
  split
  · rename_i hc
    rw [if_pos hc] at he
    exact absurd he (fail_ne (by decide))
  rename_i hdeep
  rw [if_neg hdeep] at he
  have h1 := stp_full hq
  have h2 := stp_attrs (dec := dec) (sgn := sgn) hd h1.ok
  split
  · rename_i hc
    rw [if_pos hc] at he
    exact absurd he hc
  rename_i hc1
  rw [if_neg hc1] at he
  have h3 := stp_see (n := 0) h2.ok
  have e1 := Classical.not_not.1 hc1
  have hne := full_ne hq (h2.e0 e1)
  have h4 : Stp (attrs dec sgn q.full.2).2 (if ((attrs dec sgn q.full.2).2.see 0).1 = 47 then ((attrs dec sgn q.full.2).2.see 0).2.on 1 else ((attrs dec sgn q.full.2).2.see 0).2) := by
    split
    · rename_i hc
      obtain ⟨c, hs, hx⟩ := see_c (r := (attrs dec sgn q.full.2).2) (n := 0) (by rw [hc]; decide)
      have := lt_of_at hs
      rw [hx]
      exact stp_on (by omega)
    · exact h3
  have h5 := h4.trans (stp_wants (p := [62]) h4.ok)
  by_cases hc2 : (wants [62] (if ((attrs dec sgn q.full.2).2.see 0).1 = 47 then ((attrs dec sgn q.full.2).2.see 0).2.on 1 else ((attrs dec sgn q.full.2).2.see 0).2)).e ≠ 0
  · rw [if_pos hc2] at he
    exact absurd he hc2
  rw [if_neg hc2] at he ⊢
  refine ⟨_, q.full.1, (attrs dec sgn q.full.2).1, decide (((attrs dec sgn q.full.2).2.see 0).1 = 47), hon.trans (h1.trans (h2.trans h5)), Classical.not_not.1 hc2, Nat.lt_of_lt_of_le hup (h1.trans (h2.trans h5)).up, hne, by rw [← hop]; omega, ?_⟩
  simp only [decide_eq_true_eq]
theorem element_inv (hd : DecOk dec) {st : List XTk} (h : Tinv r st) (h0 : r.out ≠ [] → st ≠ []) (hl : r.at_ + 1 ≤ r.s.length) (he : (element dec sgn r).e = 0) : ∃ st', Fin r (element dec sgn r) st' ∧ (element dec sgn r).run = r.run := by
  obtain ⟨q, n, l, single, hq, hqe, hup, hne, hop, heq⟩ := element_eq (sgn := sgn) hd hl he
  rw [heq] at he ⊢
  have hre := hq.e0 hqe
  have hbe : (begin_ n l q).2.e = 0 := by
    cases single
    · exact he
    · obtain ⟨_, _, hx⟩ := close_out (r := (begin_ n l q).2) he
      simp only [if_true] at he
      rw [hx] at he
      exact he
  obtain ⟨s, at', hs, hb, _, hp, hnm⟩ := begin_out hq.ok hbe
  generalize (begin_ n l q).1 = f at *
  rw [hb] at he ⊢
  have hk : chk (r.out ++ [⟨1, s, n.2, [], at'⟩]) [] [] = some (st ++ [⟨1, s, n.2, [], at'⟩]) := chk_open h.chk rfl hne h0 (by rw [h.mt.len]; exact hop)
  have hlen : (st ++ [(⟨1, s, n.2, [], at'⟩ : XTk)]).length ≤ 64 := by rw [List.length_append, List.length_singleton, h.mt.len]; omega
  cases single
  · simp only [Bool.false_eq_true, if_false] at he ⊢
    refine ⟨st ++ [⟨1, s, n.2, [], at'⟩], ⟨⟨by rw [hq.out]; exact hk, ?_, hlen⟩, fre_snoc (by show (1 : Int) ≠ 3; decide), hq.s, by rw [hq.out]; simp, fun hx => by simp at hx, hre, ⟨hq.ok.lt, fun _ => hq.ok.le hqe⟩, hup⟩, hq.run⟩
    show Mt _ (q.op ++ [f])
    rw [hq.op]
    exact h.mt.push hnm.symm (by rw [hp, ← hq.op]; exact hs)
  · simp only [if_true] at he ⊢
    obtain ⟨s2, hs2, hx⟩ := close_out (r := { q with out := q.out ++ [⟨1, s, n.2, [], at'⟩], e := 0 }) he
    rw [hx]
    have : s2 = s := by
      have e1 : spaceV f f.pre q.op = some s2 := hs2
      rw [hp, hs] at e1
      cases e1; rfl
    subst this
    refine ⟨st, ⟨⟨?_, ?_, h.low⟩, fre_snoc (by show (2 : Int) ≠ 3; decide), hq.s, by rw [hq.out]; simp, fun _ => by simp, hre, ⟨hq.ok.lt, fun _ => hq.ok.le hqe⟩, hup⟩, hq.run⟩
    · show chk ((q.out ++ [_]) ++ [_]) [] [] = _
      rw [hq.out]
      exact chk_close hk rfl hnm.symm rfl h.low
    · show Mt st q.op
      rw [hq.op]; exact h.mt
/-- an element's end -/
theorem end_inv {st : List XTk} (h : Tinv r st) (h0 : st ≠ []) (hl : r.at_ + 2 ≤ r.s.length) (he : (end_ r).e = 0) (h2 : r.out ≠ []) : ∃ st', Fin r (end_ r) st' ∧ (end_ r).run = r.run := by
  unfold end_ at he ⊢
  dsimp only at he ⊢
  have hne : r.op ≠ [] := fun e => h0 (List.eq_nil_of_length_eq_zero (by rw [h.mt.len, e]; rfl))
  obtain ⟨op, f, hop⟩ : ∃ op f, r.op = op ++ [f] := ⟨r.op.dropLast, r.op.getLast hne, (List.dropLast_concat_getLast hne).symm⟩
  have hf : (r.on 2).op.getLastD default = f := by show r.op.getLastD default = f; rw [hop]; simp
  rw [hf] at he ⊢
  have hon := stp_on (r := r) (n := 2) hl
  have hup : r.at_ < (r.on 2).at_ := by show r.at_ < r.at_ + 2; omega
  have hq : (r.on 2).at_ ≤ (r.on 2).s.length := hl
  generalize r.on 2 = q at *
  have h1 := stp_full hq
  generalize hb : decide (q.full.2.e = 0 ∧ ¬ (q.full.1.1 = f.pre ∧ q.full.1.2 = f.name)) = b at *
  have h3 := h1.trans (stp_failIf (b := b) (c := 4) (by decide) h1.ok)
  have h4 := h3.trans (stp_blanks h3.ok)
  have h5 := hon.trans (h4.trans (stp_wants (p := [62]) h4.ok))
  have hup2 := Nat.lt_of_lt_of_le hup (h4.trans (stp_wants (p := [62]) h4.ok)).up
  generalize wants [62] (q.full.2.failIf b 4).blanks.2 = w at *
  split
  · rename_i hw
    rw [if_pos hw] at he
    obtain ⟨s, hs, hx⟩ := close_out (r := w) (f := f) he
    rw [hx]
    obtain ⟨st', t, rfl, hm, hn, hsp⟩ := Mt.pop (by rw [← hop]; exact h.mt)
    rw [h5.op, hop, spaceV_self, hsp] at hs
    cases hs
    have hl' : st'.length ≤ 64 := by have := h.low; rw [List.length_append] at this; omega
    refine ⟨st', ⟨⟨?_, ?_, hl'⟩, fre_snoc (by show (2 : Int) ≠ 3; decide), h5.s, by show r.out.length ≤ (w.out ++ [_]).length; rw [h5.out]; simp, fun _ => ?_, h5.e0 hw, ⟨h5.ok.lt, fun _ => h5.ok.le hw⟩, hup2⟩, h5.run⟩
    · show chk (w.out ++ [_]) [] [] = _
      rw [h5.out]
      exact chk_close h.chk rfl hn rfl hl'
    · show Mt st' w.op.dropLast
      rw [h5.op, hop, List.dropLast_concat]; exact hm
    · show 2 ≤ (w.out ++ [_]).length
      rw [h5.out, List.length_append, List.length_singleton]
      have := List.length_pos_iff.2 h2
      omega
  · rename_i hw
    rw [if_neg hw] at he
    exact absurd he hw
/-- what keeps tokens and open elements -/
theorem Tinv.keep {st : List XTk} (h : Tinv r st) (ho : r'.out = r.out) (hp : r'.op = r.op) : Tinv r' st := ⟨by rw [ho]; exact h.chk, by rw [hp]; exact h.mt, h.low⟩
theorem content_inv (hd : DecOk dec) {st : List XTk} (h : Tinv r st) (hf : Fre r.out) (h0 : st ≠ []) (hok : Ok r) (he : (content dec sgn r).e = 0) : ∃ st', Fin r (content dec sgn r) st' := by
  have hout : r.out ≠ [] := fun e => h0 (by have := h.chk; rw [e] at this; unfold chk at this; cases this; rfl)
  have hne : r.op ≠ [] := fun e => h0 (List.eq_nil_of_length_eq_zero (by rw [h.mt.len, e]; rfl))
  unfold content at he ⊢
  dsimp only at he ⊢
  have h1 := stp_see (n := 0) hok
  split
  · rename_i hc
    rw [if_pos hc] at he
    have h2 := h1.trans (stp_part (dec := dec) (sgn := sgn) hd h1.ok)
    have h3 : Adv r (part dec sgn (r.see 0).2).2 := h1.adv (adv_part hd h1.ok)
    exact ⟨st, h.keep h2.out h2.op, by show Fre (part dec sgn (r.see 0).2).2.out; rw [h2.out]; exact hf, h2.s, by show _ ≤ (part dec sgn (r.see 0).2).2.out.length; rw [h2.out]; exact Nat.le_refl _, fun hx => absurd (h2.op.symm.trans hx) hne, h2.e0 he, ⟨h2.ok.lt, h2.ok.le⟩, h3 he⟩
  rename_i hc
  rw [if_neg hc] at he
  have hc60 := Classical.not_not.1 hc
  obtain ⟨c, hs, hx⟩ := see_c (r := r) (n := 0) (by rw [hc60]; decide)
  rw [hx] at he ⊢ hc60
  dsimp only at he ⊢ hc60
  subst hc60
  have hy := stp_see (n := 1) hok
  split
  · rename_i hc
    rw [if_pos hc] at he
    exact absurd he hc
  rename_i hc
  rw [if_neg hc] at he
  obtain ⟨d, hs1, hx1⟩ := see_e (Classical.not_not.1 hc)
  rw [hx1] at he ⊢
  dsimp only at he ⊢
  have hlt := lt_of_at hs1
  have hz := stp_see (n := 2) hok
  split
  · rename_i hc
    rw [if_pos hc] at he
    obtain ⟨c2, hs2, hx2⟩ := see_c (r := r) (n := 2) (by rw [hc.2]; decide)
    rw [hx2] at he ⊢
    dsimp only at he ⊢
    have h2 := stp_wants (p := [60, 33, 91, 67, 68, 65, 84, 65, 91]) hok
    have h3 := h2.trans (stp_til (p := [93, 93, 62]) hd h2.ok)
    have h4 : Adv r (til dec [93, 93, 62] (wants [60, 33, 91, 67, 68, 65, 84, 65, 91] r)).2 := (adv_wants hok).stp (stp_til (p := [93, 93, 62]) hd h2.ok)
    exact ⟨st, h.keep h3.out h3.op, by show Fre (til _ _ _).2.out; rw [h3.out]; exact hf, h3.s, by show _ ≤ (til _ _ _).2.out.length; rw [h3.out]; exact Nat.le_refl _, fun hx => absurd (h3.op.symm.trans hx) hne, h3.e0 he, ⟨h3.ok.lt, h3.ok.le⟩, h4 he⟩
  rename_i hc2
  rw [if_neg hc2] at he
  split
  · rename_i hc
    rw [if_pos hc] at he
    have h2 := hz.trans (stp_comment hd hz.ok)
    have h3 : Adv r (comment dec (r.see 2).2) := hz.adv (adv_comment hd hz.ok)
    exact ⟨st, h.keep h2.out h2.op, by rw [h2.out]; exact hf, h2.s, by rw [h2.out]; exact Nat.le_refl _, fun hx => absurd (h2.op.symm.trans hx) hne, h2.e0 he, h2.ok, h3 he⟩
  rename_i hc3
  rw [if_neg hc3] at he
  have hfl : ∀ {r' : XRd} {st' : List XTk}, Tinv r.flush st → r.flush.s = r.s → r.flush.at_ = r.at_ → r.flush.e = 0 → Fin r.flush r' st' → Fin r r' st' := fun ht hs hat hfe hF =>
    ⟨hF.inv, hF.fre, hF.s.trans hs, Nat.le_trans (by unfold flush; split; exact (by unfold fail; split <;> exact Nat.le_refl _); split; simp; exact Nat.le_refl _) hF.more, hF.two, flush_e0 hfe, hF.ok, by rw [← hat]; exact hF.adv⟩
  split
  · rename_i hc
    rw [if_pos hc] at he
    have hfe : r.flush.e = 0 := by
      by_cases hfe : r.flush.e = 0
      · exact hfe
      · exfalso
        have hl : r.flush.at_ + 2 ≤ r.flush.s.length := by
          have : r.flush.at_ = r.at_ ∧ r.flush.s = r.s := by unfold flush; split; exact ⟨fail_at, fail_s⟩; split <;> exact ⟨rfl, rfl⟩
          rw [this.1, this.2]; omega
        revert he
        unfold end_
        dsimp only
        have h1 := stp_full (r := r.flush.on 2) hl
        generalize decide ((r.flush.on 2).full.2.e = 0 ∧ ¬ ((r.flush.on 2).full.1.1 = ((r.flush.on 2).op.getLastD default).pre ∧ (r.flush.on 2).full.1.2 = ((r.flush.on 2).op.getLastD default).name)) = b
        have h3 := h1.trans (stp_failIf (b := b) (c := 4) (by decide) h1.ok)
        have h4 := h3.trans (stp_blanks h3.ok)
        have h5 := h4.trans (stp_wants (p := [62]) h4.ok)
        have h6 := h5.e hfe
        rw [if_neg (by rw [h6]; exact hfe)]
        rw [h6]; exact hfe
    obtain ⟨h2, h3, h4, h5, h6, h7⟩ := flush_inv h hf h0 hfe
    obtain ⟨st', hF, _⟩ := end_inv h2 h0 (by rw [h4, h5]; omega) he h7
    exact ⟨st', hfl h2 h4 h5 hfe hF⟩
  rename_i hc4
  rw [if_neg hc4] at he
  split
  · rename_i hc
    rw [if_pos hc] at he
    have hat : r.flush.at_ = r.at_ ∧ r.flush.s = r.s := by unfold flush; split; exact ⟨fail_at, fail_s⟩; split <;> exact ⟨rfl, rfl⟩
    have hl : r.flush.at_ + 1 ≤ r.flush.s.length := by rw [hat.1, hat.2]; omega
    obtain ⟨q, _, _, _, hq, hqe, _⟩ := element_eq (sgn := sgn) hd hl he
    have hfe := hq.e0 hqe
    obtain ⟨h2, h3, h4, h5, h6, h7⟩ := flush_inv h hf h0 hfe
    obtain ⟨st', hF, _⟩ := element_inv (sgn := sgn) hd h2 (fun _ => h0) hl he
    exact ⟨st', hfl h2 h4 h5 hfe hF⟩
  · rename_i hc
    rw [if_neg hc] at he
    exact absurd he (fail_ne (by decide))
theorem content_e0 (hd : DecOk dec) (hok : Ok r) (hne : r.e ≠ 0) : contents dec sgn n r = r := by
  cases n with
  | zero => rfl
  | succ f => unfold contents; rw [if_neg (fun h => hne h.1)]
theorem contents_inv (hd : DecOk dec) : ∀ {f : Nat} {r : XRd} {st : List XTk}, Tinv r st → Fre r.out → (r.op = [] → 2 ≤ r.out.length) → Ok r → r.s.length < f + r.at_ → (contents dec sgn f r).e = 0 → Tinv (contents dec sgn f r) [] ∧ 2 ≤ (contents dec sgn f r).out.length ∧ (contents dec sgn f r).op = [] ∧ Ok (contents dec sgn f r)
  | 0, r, st, h, hf, h2, hok, hfu, he => by
    have := hok.le he
    omega
  | f + 1, r, st, h, hf, h2, hok, hfu, he => by
    by_cases hc : r.e = 0 ∧ r.op ≠ []
    · have e1 : contents dec sgn (f + 1) r = contents dec sgn f (content dec sgn r) := by conv => lhs; unfold contents; rw [if_pos hc]
      rw [e1] at he ⊢
      have h0 : st ≠ [] := fun e => hc.2 (List.eq_nil_of_length_eq_zero (by rw [← h.mt.len, e]; rfl))
      have hce : (content dec sgn r).e = 0 := Classical.byContradiction fun hn => by
        have : ∀ {n : Nat} {r : XRd}, r.e ≠ 0 → contents dec sgn n r = r := fun {n r} hne => by
          cases n with
          | zero => rfl
          | succ f => unfold contents; rw [if_neg (fun h => hne h.1)]
        rw [this hn] at he
        exact hn he
      obtain ⟨st', hF⟩ := content_inv (sgn := sgn) hd h hf h0 hok hce
      exact contents_inv hd hF.inv hF.fre hF.two hF.ok (by rw [hF.s]; have := hF.adv; omega) he
    · have e1 : contents dec sgn (f + 1) r = r := by conv => lhs; unfold contents; rw [if_neg hc]
      rw [e1] at he ⊢
      have hop : r.op = [] := Classical.byContradiction fun hn => hc ⟨he, hn⟩
      have : st = [] := List.eq_nil_of_length_eq_zero (by rw [h.mt.len, hop]; rfl)
      subst this
      exact ⟨h, h2 hop, hop, hok⟩
/-- P6.4 -/
theorem tokens_pairs (hd : DecOk dec) {b : Txt} : (tokens dec sgn b).2 ≠ 0 ∧ (tokens dec sgn b).1 = [] ∨ (tokens dec sgn b).2 = 0 ∧ chk (tokens dec sgn b).1 [] [] = some [] ∧ 2 ≤ (tokens dec sgn b).1.length := by
  unfold tokens
  split
  · exact .inl ⟨by decide, rfl⟩
  dsimp only
  have h1 := stp_front (dec := dec) (r := ⟨b, 0, 0, [], [], []⟩) hd (Nat.zero_le _)
  generalize front dec ⟨b, 0, 0, [], [], []⟩ = r at *
  have h2 := h1.trans (stp_see (n := 0) h1.ok)
  generalize hb : decide ((r.see 0).2.e = 0 ∧ (r.see 0).1 ≠ 60) = b1
  have h3 := h2.trans (stp_failIf (b := b1) (c := 4) (by decide) h2.ok)
  generalize hq1 : (r.see 0).2.failIf b1 4 = q1 at *
  have h4 := h3.trans (stp_see (n := 1) h3.ok)
  generalize hb2 : (decide ((q1.see 1).2.e = 0) && !begs (q1.see 1).1) = b2
  have h5 := h4.trans (stp_failIf (b := b2) (c := 4) (by decide) h4.ok)
  generalize hq2 : (q1.see 1).2.failIf b2 4 = q2 at *
  have hsee : q2.e = 0 → q2.at_ + 1 ≤ q2.s.length := fun he => by
    have := (stp_failIf (b := b2) (c := 4) (by decide) h4.ok).e0 (by rw [hq2]; exact he)
    obtain ⟨c, hc, _⟩ := see_e this
    have hlt := lt_of_at hc
    have e1 : q2.at_ = q1.at_ := by rw [← hq2, failIf_at, see_at]
    have e2 : q2.s = q1.s := by rw [← hq2, failIf_s, see_s]
    rw [e1, e2]; omega
  have hT : Tinv q2 [] := ⟨by rw [h5.out]; rfl, by rw [h5.op]; exact ⟨rfl, fun i t f hi => by cases hi⟩, by simp⟩
  generalize hz : misc dec (b.length + 2) (contents dec sgn (b.length + 2) (if q2.e = 0 then element dec sgn q2 else q2)) = z
  generalize decide (z.e = 0 ∧ z.at_ < z.s.length) = b3
  by_cases hc : (z.failIf b3 4).e ≠ 0
  · rw [if_pos hc]
    exact .inl ⟨hc, rfl⟩
  rw [if_neg hc]
  refine .inr ⟨rfl, ?_⟩
  have hfin := Classical.not_not.1 hc
  clear hc
  obtain ⟨hq3, hq4⟩ := failIf_e (by decide) hfin
  rw [hq4] at hfin ⊢
  subst hz
  by_cases he2 : q2.e = 0
  · rw [if_pos he2] at hfin ⊢
    have hce : (contents dec sgn (b.length + 2) (element dec sgn q2)).e = 0 := by
      refine Classical.byContradiction fun hn => ?_
      have : misc dec (b.length + 2) (contents dec sgn (b.length + 2) (element dec sgn q2)) = contents dec sgn (b.length + 2) (element dec sgn q2) := by
        unfold misc; rw [if_pos hn]
      rw [this] at hfin
      exact hn hfin
    have hel : (element dec sgn q2).e = 0 := by
      refine Classical.byContradiction fun hn => ?_
      have : contents dec sgn (b.length + 2) (element dec sgn q2) = element dec sgn q2 := by
        unfold contents; rw [if_neg (fun h => hn h.1)]
      rw [this] at hce
      exact hn hce
    obtain ⟨st', hF, _⟩ := element_inv (sgn := sgn) hd hT (fun hx => absurd (h5.out) hx) (hsee he2) hel
    obtain ⟨g1, g2, g3, g4⟩ := contents_inv (sgn := sgn) (f := b.length + 2) hd hF.inv hF.fre hF.two hF.ok (by rw [hF.s, h5.s]; show b.length < _; omega) hce
    have h6 := stp_misc (f := b.length + 2) hd g4
    rw [h6.out]
    exact ⟨g1.chk, g2⟩
  · exfalso
    rw [if_neg he2] at hfin
    have e1 : contents dec sgn (b.length + 2) q2 = q2 := by unfold contents; rw [if_neg (fun h => he2 h.1)]
    rw [e1] at hfin
    have e2 : misc dec (b.length + 2) q2 = q2 := by unfold misc; rw [if_pos he2]
    rw [e2] at hfin
    exact he2 hfin
end Go.Ez.XRd
