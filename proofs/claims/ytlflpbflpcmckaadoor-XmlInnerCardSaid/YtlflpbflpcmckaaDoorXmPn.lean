/-
  XML: the document's tokens: Plain, Same, same; Each, Inner: what each answers.
-/
import Derived.Test.YtlflpbflpcmckaaDoorXmV
import Derived.Laws.StructEq
import Derived.Test.YtlflpbflpcmckaaDoorBuX
import Derived.Test.YtlflpbflpcmckaaDoorEzIter
namespace Go.Ez.XRd
open Go Go.Ez
set_option linter.unusedSimpArgs false
set_option linter.unusedVariables false
variable {r r' : XRd} {N : Nat} {dec : Txt → Int × Nat} {sgn : Int → Txt × Bool}
/-- tokens' attributes are so many at most -/
def AB (N : Nat) (out : List XTk) : Prop := ∀ t ∈ out, t.attrs.length ≤ N
theorem AB.snoc {out : List XTk} {t : XTk} (h : AB N out) (ht : t.attrs.length ≤ N) : AB N (out ++ [t]) := fun u hu => by
  rcases List.mem_append.1 hu with hu | hu
  · exact h u hu
  · rw [List.mem_singleton.1 hu]; exact ht
theorem attrsGo_len : ∀ {f : Nat} {l : List XPr} {r : XRd}, (attrsGo dec sgn f l r).1.length ≤ l.length + f
  | 0, l, r => Nat.le_refl _
  | f + 1, l, r => by
    unfold attrsGo
    split
    · exact Nat.le_add_right _ _
    · dsimp only
      split
      · exact Nat.le_add_right _ _
      · split
        · have := attrsGo_len (f := f) (l := l) (r := (r.blanks.2.see 0).2.fail 4)
          omega
        · have := attrsGo_len (f := f) (l := l ++ [(attr dec sgn l (r.blanks.2.see 0).2).1]) (r := (attr dec sgn l (r.blanks.2.see 0).2).2)
          rw [List.length_append, List.length_singleton] at this
          omega
theorem attsOf_len {f : XFr} : ∀ {l : List XPr} {o : List XAt} {r : XRd}, (attsOf f l o r).1.length ≤ o.length + l.length
  | [], o, r => Nat.le_refl _
  | a :: l, o, r => by
    unfold attsOf
    split
    · have := attsOf_len (f := f) (l := l) (o := o) (r := r)
      rw [List.length_cons]; omega
    · split
      · have := attsOf_len (f := f) (l := l) (o := o ++ [⟨(space f a.pre r).1, a.name, a.value⟩]) (r := (space f a.pre r).2)
        rw [List.length_append, List.length_singleton] at this
        rw [List.length_cons]; omega
      · have := attsOf_len (f := f) (l := l) (o := o ++ [⟨[], a.name, a.value⟩]) (r := r)
        rw [List.length_append, List.length_singleton] at this
        rw [List.length_cons]; omega
theorem fail_out {c : Int} : (r.fail c).out = r.out := by unfold fail; split <;> rfl
theorem ab_begin {n : Txt × Txt} {l : List XPr} (h : AB N r.out) (hl : l.length ≤ N) : AB N (begin_ n l r).2.out := by
  unfold begin_
  dsimp only
  rw [(attsOf_same).2.2.1, (space_same _ _ _).2.2.1]
  refine h.snoc (Nat.le_trans attsOf_len ?_)
  simpa using hl
theorem ab_close {f : XFr} (h : AB N r.out) : AB N (close f r).out := by
  unfold close
  dsimp only
  rw [(space_same _ _ _).2.2.1]
  exact h.snoc (Nat.zero_le _)
theorem ab_flush (h : AB N r.out) : AB N r.flush.out := by
  unfold flush
  split
  · rw [fail_out]; exact h
  · split
    · exact h.snoc (Nat.zero_le _)
    · exact h
theorem ab_element (hd : DecOk dec) (hl : r.at_ + 1 ≤ r.s.length) (h : AB N r.out) (hN : r.s.length + 3 ≤ N) : AB N (element dec sgn r).out := by
  unfold element
  dsimp only
  have hon := stp_on (r := r) (n := 1) hl
  have hq : (r.on 1).at_ ≤ (r.on 1).s.length := hl
  generalize r.on 1 = q at *
  split
  · rw [fail_out, hon.out]; exact h
  have h1 := stp_full hq
  have h2 := h1.trans (stp_attrs (dec := dec) (sgn := sgn) hd h1.ok)
  have hal : (attrs dec sgn q.full.2).1.length ≤ N := by
    refine Nat.le_trans attrsGo_len ?_
    rw [h1.s, hon.s]
    simpa using hN
  split
  · rw [h2.out, hon.out]; exact h
  have h3 := stp_see (n := 0) h2.ok
  have h4 : Stp (attrs dec sgn q.full.2).2 (if ((attrs dec sgn q.full.2).2.see 0).1 = 47 then ((attrs dec sgn q.full.2).2.see 0).2.on 1 else ((attrs dec sgn q.full.2).2.see 0).2) := by
    split
    · rename_i hc
      obtain ⟨c, hs, hx⟩ := see_c (r := (attrs dec sgn q.full.2).2) (n := 0) (by rw [hc]; decide)
      have := lt_of_at hs
      rw [hx]
      exact stp_on (by omega)
    · exact h3
  have h5 := hon.trans (h2.trans (h4.trans (stp_wants (p := [62]) h4.ok)))
  generalize wants [62] (if ((attrs dec sgn q.full.2).2.see 0).1 = 47 then ((attrs dec sgn q.full.2).2.see 0).2.on 1 else ((attrs dec sgn q.full.2).2.see 0).2) = z at *
  generalize ((attrs dec sgn q.full.2).2.see 0).1 = x at *
  have hz : AB N z.out := by rw [h5.out]; exact h
  split
  · exact hz
  have hb := ab_begin (n := q.full.1) (l := (attrs dec sgn q.full.2).1) hz hal
  split
  · exact ab_close hb
  · exact hb
theorem ab_end (hl : r.at_ + 2 ≤ r.s.length) (h : AB N r.out) : AB N (end_ r).out := by
  unfold end_
  dsimp only
  have hon := stp_on (r := r) (n := 2) hl
  have hq : (r.on 2).at_ ≤ (r.on 2).s.length := hl
  generalize (r.on 2).op.getLastD default = f
  generalize r.on 2 = q at *
  have h1 := stp_full hq
  generalize decide (q.full.2.e = 0 ∧ ¬ (q.full.1.1 = f.pre ∧ q.full.1.2 = f.name)) = b at *
  have h3 := h1.trans (stp_failIf (b := b) (c := 4) (by decide) h1.ok)
  have h4 := h3.trans (stp_blanks h3.ok)
  have h5 := hon.trans (h4.trans (stp_wants (p := [62]) h4.ok))
  generalize wants [62] (q.full.2.failIf b 4).blanks.2 = w at *
  have hz : AB N w.out := by rw [h5.out]; exact h
  split
  · exact ab_close hz
  · exact hz
theorem ab_content (hd : DecOk dec) (hok : Ok r) (h : AB N r.out) (hN : r.s.length + 3 ≤ N) : AB N (content dec sgn r).out := by
  unfold content
  dsimp only
  have h1 := stp_see (n := 0) hok
  split
  · show AB N (part dec sgn (r.see 0).2).2.out
    rw [(stp_part hd h1.ok).out, h1.out]; exact h
  rename_i hc
  have hc60 := Classical.not_not.1 hc
  obtain ⟨c, hs, hx⟩ := see_c (r := r) (n := 0) (by rw [hc60]; decide)
  rw [hx]
  dsimp only
  have hy := stp_see (n := 1) hok
  split
  · rw [hy.out]; exact h
  rename_i hc
  obtain ⟨d, hs1, hx1⟩ := see_e (Classical.not_not.1 hc)
  rw [hx1]
  dsimp only
  have hlt := lt_of_at hs1
  have hz := stp_see (n := 2) hok
  split
  · rename_i hc
    obtain ⟨c2, hs2, hx2⟩ := see_c (r := r) (n := 2) (by rw [hc.2]; decide)
    rw [hx2]
    have h2 := stp_wants (p := [60, 33, 91, 67, 68, 65, 84, 65, 91]) hok
    have h3 := h2.trans (stp_til (p := [93, 93, 62]) hd h2.ok)
    show AB N (til dec [93, 93, 62] (wants [60, 33, 91, 67, 68, 65, 84, 65, 91] r)).2.out
    rw [h3.out]; exact h
  split
  · rw [(hz.trans (stp_comment hd hz.ok)).out]; exact h
  obtain ⟨f1, f2, f3, f4, f5⟩ := flush_same r
  split
  · exact ab_end (by rw [f1, f2]; omega) (ab_flush h)
  split
  · exact ab_element hd (by rw [f1, f2]; omega) (ab_flush h) (by rw [f2]; exact hN)
  · rw [fail_out]; exact h
theorem ab_contents (hd : DecOk dec) (hpl : ∀ q : XRd, (part dec sgn q).1.length ≤ q.s.length + 4) : ∀ {f : Nat} {r : XRd}, Ok r → AB N r.out → r.s.length + 3 ≤ N → AB N (contents dec sgn f r).out ∧ Ok (contents dec sgn f r)
  | 0, r, h, ha, _ => ⟨ha, h⟩
  | f + 1, r, h, ha, hN => by
    unfold contents
    split
    · have h1 := (bnd_content (sgn := sgn) hd hpl h).1
      exact ab_contents hd hpl h1.ok (ab_content hd h ha hN) (by rw [h1.s]; exact hN)
    · exact ⟨ha, h⟩
theorem tokens_ab (hd : DecOk dec) (hpl : ∀ q : XRd, (part dec sgn q).1.length ≤ q.s.length + 4) {b : Txt} : AB (b.length + 3) (tokens dec sgn b).1 := by
  unfold tokens
  split
  · intro t ht; cases ht
  dsimp only
  have h1 := stp_front (dec := dec) (r := ⟨b, 0, 0, [], [], []⟩) hd (Nat.zero_le _)
  generalize front dec ⟨b, 0, 0, [], [], []⟩ = r at *
  have h2 := h1.trans (stp_see (n := 0) h1.ok)
  generalize decide ((r.see 0).2.e = 0 ∧ (r.see 0).1 ≠ 60) = b1
  have h3 := h2.trans (stp_failIf (b := b1) (c := 4) (by decide) h2.ok)
  generalize (r.see 0).2.failIf b1 4 = q1 at *
  have h4 := h3.trans (stp_see (n := 1) h3.ok)
  generalize hb2 : (decide ((q1.see 1).2.e = 0) && !begs (q1.see 1).1) = b2
  have h5 := h4.trans (stp_failIf (b := b2) (c := 4) (by decide) h4.ok)
  generalize hq2 : (q1.see 1).2.failIf b2 4 = q2 at *
  have hsee : q2.e = 0 → q2.at_ + 1 ≤ q2.s.length := fun he => by
    have := (stp_failIf (b := b2) (c := 4) (by decide) h4.ok).e0 (by rw [hq2]; exact he)
    obtain ⟨c, hc, _⟩ := see_e this
    have hlt := lt_of_at hc
    have e1 : q2.at_ = q1.at_ := by rw [← hq2, failIf_at, see_at]
    have e2 : q2.s = q1.s := by rw [← hq2, failIf_s, see_s]
    rw [e1, e2]; omega
  have h0 : AB (b.length + 3) q2.out := by rw [h5.out]; intro t ht; cases ht
  have h6 : AB (b.length + 3) (if q2.e = 0 then element dec sgn q2 else q2).out ∧ Ok (if q2.e = 0 then element dec sgn q2 else q2) ∧ (if q2.e = 0 then element dec sgn q2 else q2).s = b := by
    split
    · rename_i he
      have hb := (bnd_element (sgn := sgn) hd (hsee he)).1
      exact ⟨ab_element hd (hsee he) h0 (by rw [h5.s]; exact Nat.le_refl _), hb.ok, by rw [hb.s, h5.s]⟩
    · exact ⟨h0, h5.ok, h5.s⟩
  generalize (if q2.e = 0 then element dec sgn q2 else q2) = q3 at *
  obtain ⟨g1, g2, g3⟩ := h6
  obtain ⟨g4, g5⟩ := ab_contents (sgn := sgn) (f := b.length + 2) hd hpl g2 g1 (by rw [g3]; exact Nat.le_refl _)
  have h7 := stp_misc (f := b.length + 2) hd g5
  generalize misc dec (b.length + 2) (contents dec sgn (b.length + 2) q3) = q4 at *
  have h8 : (q4.failIf (decide (q4.e = 0 ∧ q4.at_ < q4.s.length)) 4).out = q4.out := (stp_failIf (by decide) h7.ok).out
  split
  · intro t ht; cases ht
  · show AB _ (q4.failIf (decide (q4.e = 0 ∧ q4.at_ < q4.s.length)) 4).out
    rw [h8, h7.out]; exact g4
end Go.Ez.XRd
namespace Go.Proofs.YtlflpbflpcmckaaDoor
open Go Go.Ez Go.RowKit Go.Lib
set_option linter.unusedSimpArgs false
set_option linter.unusedVariables false
theorem tokX_ab (s : Txt) : ∀ t ∈ (tokX s).1, t.attrs.length ≤ s.length + 3 := XRd.tokens_ab (dec := decX) (sgn := signS) decX_ok fun q => part_len
/-! ### attributes held against one another -/
theorem xat_eqIn (a b : XAt) (w : World) : (Op.equalIn 10000 35 (.agg (atc a).toArray) (.agg (atc b).toArray)).run Tryd.prog w = .ok (decide (a = b)) w := by
  have hf := fieldsOf_of Tryd.underlying35
  have ht : Tryd.prog.underlying 35 = some (.struct (Tryd.prog.fieldsOf 35)) := Tryd.underlying35.trans (by rw [hf])
  have hs : Tryd.prog.stoodInHeld 35 = false := by kernel_rfl
  have es : ∀ (d : Nat) (a b : List UInt8), (Op.equalIn (d + 1) 9 (strV a) (strV b)).run Tryd.prog w = .ok (decide (a = b)) w := fun d a b => by
    rw [run_equalIn_string w d 9 _ _ Tryd.underlying9]
    rw [bytes_eq]
  rw [run_equalIn_agg w 9999 35 _ _ ht hs, hf]
  obtain ⟨a1, a2, a3⟩ := a
  obtain ⟨b1, b2, b3⟩ := b
  by_cases h1 : a1 = b1 <;> by_cases h2 : a2 = b2 <;> by_cases h3 : a3 = b3 <;> simp [Op.eqFields, go_sem, es 9998, h1, h2, h3, Result.andThen]
theorem dat_eqIn (a b : XAt) (w : World) : (Op.equalIn 10000 71 (.agg (atc a).toArray) (.agg (atc b).toArray)).run Tryd.prog w = .ok (decide (a = b)) w := by
  have hf := fieldsOf_of Tryd.underlying71
  have ht : Tryd.prog.underlying 71 = some (.struct (Tryd.prog.fieldsOf 71)) := Tryd.underlying71.trans (by rw [hf])
  have hs : Tryd.prog.stoodInHeld 71 = false := by kernel_rfl
  have es : ∀ (d : Nat) (a b : List UInt8), (Op.equalIn (d + 1) 9 (strV a) (strV b)).run Tryd.prog w = .ok (decide (a = b)) w := fun d a b => by
    rw [run_equalIn_string w d 9 _ _ Tryd.underlying9]
    rw [bytes_eq]
  rw [run_equalIn_agg w 9999 71 _ _ ht hs, hf]
  obtain ⟨a1, a2, a3⟩ := a
  obtain ⟨b1, b2, b3⟩ := b
  by_cases h1 : a1 = b1 <;> by_cases h2 : a2 = b2 <;> by_cases h3 : a3 = b3 <;> simp [Op.eqFields, go_sem, es 9998, h1, h2, h3, Result.andThen]
theorem s_neXat {S : World → Prop} {K : Value → Prop} {X Y : Operand} {a b : XAt} (h : K (.bool (!decide (a = b)))) : RunS Tryd.prog S (bin .neq 35 X Y (.agg (atc a).toArray) (.agg (atc b).toArray)) K := by
  refine .of (fun w _ => ?_) h
  have hg : Tryd.prog.eqGuardType Tryd.prog.depth 35 = false := by kernel_rfl
  show (do eqGuard .neq 35 X Y (.agg (atc a).toArray) (.agg (atc b).toArray); binOp .neq 35 (.agg (atc a).toArray) (.agg (atc b).toArray) : Sem Value).run Tryd.prog w = _
  simp only [Sem.run_bind, run_eqGuard_agg w .neq 35 X Y _ _ hg, Result.andThen, run_neq_struct, xat_eqIn]
theorem s_neDat {S : World → Prop} {K : Value → Prop} {X Y : Operand} {a b : XAt} (h : K (.bool (!decide (a = b)))) : RunS Tryd.prog S (bin .neq 71 X Y (.agg (atc a).toArray) (.agg (atc b).toArray)) K := by
  refine .of (fun w _ => ?_) h
  have hg : Tryd.prog.eqGuardType Tryd.prog.depth 71 = false := by kernel_rfl
  show (do eqGuard .neq 71 X Y (.agg (atc a).toArray) (.agg (atc b).toArray); binOp .neq 71 (.agg (atc a).toArray) (.agg (atc b).toArray) : Sem Value).run Tryd.prog w = _
  simp only [Sem.run_bind, run_eqGuard_agg w .neq 71 X Y _ _ hg, Result.andThen, run_neq_struct, dat_eqIn]
/-- a struct of a slice, in a drawn region -/
theorem x_srcl {P : Program} {K : Value → Prop} {S' : World → Prop} {w1 : World} {α : Type} {f : α → List Value} {sz : Nat} (hf : ∀ a, (f a).length = sz) {L : List α} {i n : Nat} {a : α} {t e : TypeId} {bytes : Nat} {z v : Value} {zs : List Value} {k0 : IntKind} [S : SlT P t e sz bytes z] [T : TyS P e sz zs] (hs : Sl w1 sz v n (rcells f L)) (hS : ∀ w, S' w → Sl w sz v n (rcells f L)) (hn : n = L.length) (hi : L[i]? = some a) (k : K (.agg (f a).toArray)) :
    RunA P (Instr.indexAt t v (.int k0 (i : Int))) fun q => RunS P S' (Instr.loadAt e q) K := by
  have hpos := S.el.pos
  have hil := (List.getElem?_eq_some_iff.1 hi).1
  have hg : ∀ j u, (f a)[j]? = some u → (rcells f L)[i * sz + j]? = some u := fun j u hu => by
    have hj : j < sz := by have := (List.getElem?_eq_some_iff.1 hu).1; rw [hf] at this; exact this
    rw [rc_get hf hi hj]; exact hu
  obtain ⟨ao, cap, rfl, hnc, hl, hc, _⟩ := hs
  have h0 : 0 < (f a).length := by rw [hf]; omega
  obtain ⟨b, o, rfl, _⟩ := hc _ _ (hg 0 _ (List.getElem?_eq_getElem h0))
  refine a_indexAt S.el.und S.el.size (by omega) (by omega) ?_
  rw [Int.toNat_natCast]
  refine RunS.of (v := .agg (f a).toArray) (fun w hw => ?_) k
  obtain ⟨ao', cap', e1, _, _, hc', _⟩ := hS w hw
  cases e1
  have hx : ∀ j u, (f a)[j]? = some u → w.cell? ⟨b, o + i * sz + j, none⟩ = some u := fun j u hu => by
    obtain ⟨b', o', e2, e3⟩ := hc' _ u (hg j u hu)
    cases e2
    rw [Nat.add_assoc]
    exact e3
  obtain ⟨v, h1, h2⟩ := x_lds (P := P) (W := w) (e := e) (b := b) (o := o + i * sz) (sz := sz) (zs := zs) (cs := f a) (K := fun v => v = .agg (f a).toArray) (hf a) hx rfl
  rw [h1, h2]
section
variable {w0 W W' : World} {G : Nat → Prop} {l R R1 R2 : List As} {RR : Value → World → Prop} {s : Txt} {v va vb : Value} {ts us : List XTk} {t u : XTk} {i n : Nat} {K : Value → Prop} {k0 : IntKind}
abbrev DTb (t : XTk) (va : Value) : Nat → As := Ob (.cells (tcell (t, va)).toArray 59 (0, 0))
theorem rsame_spec (h1 : Sl w0 3 va t.attrs.length (rcells atc t.attrs)) (h2 : Sl w0 3 vb u.attrs.length (rcells atc u.attrs)) (ha : t.attrs.length ≤ 1000000) (h : St w0 G0 l W) (k : ∀ W', St w0 G0 l W' → RR (.bool (decide (t = u))) W') : CallF Tryd.prog 23 #[.agg (tcell (t, va)).toArray, .agg (tcell (u, vb)).toArray] W RR := by
  refine sh23_calls ?_
  unfold sh23
  refine h.boxS (cs := tcell (t, va)) fun b1 W h => ?_
  refine h.boxS (cs := tcell (u, vb)) fun b2 W h => ?_
  replace h : St w0 G0 (Ky b2 (DTb u vb) :: Ky b1 (DTb t va) :: l) W := h
  have no : t ≠ u → ∀ {W}, St w0 G0 (Ky b2 (DTb u vb) :: Ky b1 (DTb t va) :: l) W → RR (.bool false) W := fun hne {W} h => by
    rw [decide_eq_false hne] at k
    exact k _ h.tail.tail
  refine a_fld0 (h.load (a_fld0 (h.load (w_neq (ifd (fun hne => no (fun e => hne (by rw [e])) h) fun g1 => ?_)))))
  refine a_fld0 (h.load (a_fld0 (h.load (w_neqL (ifd (fun hne => no (fun e => hne (by rw [e])) h) fun g2 => ?_)))))
  refine a_fld0 (h.load (a_fld0 (h.load (w_neqL (ifd (fun hne => no (fun e => hne (by rw [e])) h) fun g3 => ?_)))))
  refine a_fld0 (h.load (a_fld0 (h.load (w_neqL (ifd (fun hne => no (fun e => hne (by rw [e])) h) fun g4 => ?_)))))
  refine a_fld0 (h.load (x_lenS h1 (a_fld0 (h.load (x_lenS h2 (w_neq (ifd (fun hne => no (fun e => hne (by rw [e])) h) fun g5 => ?_)))))))
  have hlen : t.attrs.length = u.attrs.length := by omega
  refine lpx (α := Nat) (fun i => [nV .i64 i]) (fun i W' => i ≤ t.attrs.length ∧ t.attrs.take i = u.attrs.take i ∧ St w0 G0 (Ky b2 (DTb u vb) :: Ky b1 (DTb t va) :: l) W') (fun i => t.attrs.length - i) 0 (fun _ => rfl) rfl ⟨Nat.zero_le _, rfl, h⟩ ?_
  clear h
  rintro next i W1 hnext ⟨q1, q2, h⟩
  refine app1 ?_
  refine a_fld0 (h.load (x_lenS h1 (a_lss (ifd (fun hc => ?_) fun hc => ?_))))
  · have hi : i < t.attrs.length := by omega
    have ga : t.attrs[i]? = some t.attrs[i] := List.getElem?_eq_getElem hi
    have gb : u.attrs[i]? = some (u.attrs[i]'(by omega)) := List.getElem?_eq_getElem (by omega)
    generalize t.attrs[i] = a at ga
    generalize (u.attrs[i]'(by omega)) = b at gb
    refine ⟨St w0 G0 (Ky b2 (DTb u vb) :: Ky b1 (DTb t va) :: l), h.drew, ?_⟩
    replace h := h.drew
    have hS1 : ∀ w, St w0 G0 (Ky b2 (DTb u vb) :: Ky b1 (DTb t va) :: l) w → Sl w 3 va t.attrs.length (rcells atc t.attrs) := fun w hw => h1.below hw.low
    have hS2 : ∀ w, St w0 G0 (Ky b2 (DTb u vb) :: Ky b1 (DTb t va) :: l) w → Sl w 3 vb u.attrs.length (rcells atc u.attrs) := fun w hw => h2.below hw.low
    refine a_fld0 (ss_load (x_srcl atc_len (hS1 _ h) hS1 rfl ga ?_))
    refine a_fld0 (ss_load (x_srcl atc_len (hS2 _ h) hS2 rfl gb ?_))
    refine s_neDat (ifnd (fun hne => ?_) fun hab => ?_)
    · refine no (fun e => hne ?_) h
      rw [e, gb] at ga
      exact (Option.some.inj ga).symm
    · refine a_add64 (by omega) (by omega) ⟨rfl, rfl, ?_⟩
      rw [show ((i : Int) + 1) = ((i + 1 : Nat) : Int) by push_cast; rfl]
      exact hnext (i + 1) _ (by omega) ⟨by omega, by rw [List.take_add_one, List.take_add_one, ga, gb, q2, hab], h⟩
  · have hi : i = t.attrs.length := by omega
    rw [hi, List.take_length, hlen, List.take_length] at q2
    have : t = u := by
      cases t; cases u
      simp only [XTk.mk.injEq]
      simp only [Classical.not_not] at g1 g2 g3 g4
      exact ⟨g1, g2, g3, g4, q2⟩
    rw [decide_eq_true this] at k
    exact k _ h.tail.tail
/-- are tokens the document's? -/
theorem same_spec (h1 : Toks w0 va ts) (h2 : Toks w0 vb us) (hn : ts.length ≤ 1000000) (ha : ∀ t ∈ ts, t.attrs.length ≤ 1000000) (h : St w0 G0 l W) (k : ∀ W', St w0 G0 l W' → RR (.bool (decide (ts = us))) W') : CallF Tryd.prog 13 #[va, vb] W RR := by
  refine sh13_calls ?_
  unfold sh13
  obtain ⟨ov, ho, hs1, ht1⟩ := h1
  obtain ⟨ou, ho', hs2, ht2⟩ := h2
  have l1 : ov.length = ts.length := by rw [← ho, List.length_map]
  have l2 : ou.length = us.length := by rw [← ho', List.length_map]
  refine x_lenS hs1 (x_lenS hs2 (w_neq (ifd (fun hne => ?_) fun g1 => ?_)))
  · rw [decide_eq_false (fun e => hne (by rw [l1, l2, e]))] at k
    exact k _ h
  have hlen : ts.length = us.length := by omega
  refine lpx (α := Nat) (fun i => [nV .i64 i]) (fun i W' => i ≤ ts.length ∧ ts.take i = us.take i ∧ St w0 G0 l W') (fun i => ts.length - i) 0 (fun _ => rfl) rfl ⟨Nat.zero_le _, rfl, h⟩ ?_
  clear h
  rintro next i W1 hnext ⟨q1, q2, h⟩
  refine app1 ?_
  refine x_lenS hs1 (a_lss (ifd (fun hc => ?_) fun hc => ?_))
  · have hi : i < ts.length := by omega
    have ga : ts[i]? = some ts[i] := List.getElem?_eq_getElem hi
    have gb : us[i]? = some (us[i]'(by omega)) := List.getElem?_eq_getElem (by omega)
    have hat := ha _ (List.getElem_mem hi)
    generalize ts[i] = a at ga hat
    generalize (us[i]'(by omega)) = b at gb
    obtain ⟨xa, hxa⟩ := tk_ov ho ga
    obtain ⟨xb, hxb⟩ := tk_ov ho' gb
    refine ⟨St w0 G0 l, h.drew, ?_⟩
    replace h := h.drew
    have hS1 : ∀ w, St w0 G0 l w → Sl w 5 va ov.length (rcells tcell ov) := fun w hw => hs1.below hw.low
    have hS2 : ∀ w, St w0 G0 l w → Sl w 5 vb ou.length (rcells tcell ou) := fun w hw => hs2.below hw.low
    refine x_srcl tcell_len (hS1 _ h) hS1 rfl hxa ?_
    refine x_srcl tcell_len (hS2 _ h) hS2 rfl hxb ?_
    refine rsame_spec (ht1 _ (List.mem_of_getElem? hxa)).2 (ht2 _ (List.mem_of_getElem? hxb)).2 hat h fun W h => ?_
    refine a_not (ifnd (fun hne => ?_) fun hab => ?_)
    · rw [decide_eq_false (fun e => hne (by rw [e, gb] at ga; exact (Option.some.inj ga).symm))] at k
      exact k _ h
    · refine a_add64 (by omega) (by omega) ⟨rfl, rfl, ?_⟩
      rw [show ((i : Int) + 1) = ((i + 1 : Nat) : Int) by push_cast; rfl]
      exact hnext (i + 1) _ (by omega) ⟨by omega, by rw [List.take_add_one, List.take_add_one, ga, gb, q2, hab], h⟩
  · have hi : i = ts.length := by omega
    rw [hi, List.take_length, hlen, List.take_length] at q2
    rw [decide_eq_true q2] at k
    exact k _ h
abbrev DtS (ov : List (XTk × Value)) : Value → As := Ow 59 5 ov.length (rcells tcell ov)
abbrev DaS (o : List XAt) : Value → As := Ow 71 3 o.length (rcells atc o)
abbrev KqD (zs : List (Value × List XAt)) : PoolK → As := Kq atc 71 3 zs
/-- what a place in a pool is known by -/
def InP (zs : List (Value × List XAt)) (p : XTk × Value) : Prop := p.2.oneCell' = true ∧ (p.2, p.1.attrs) ∈ zs
theorem plain_spec (ht : Toks w0 v ts) (hn : ts.length ≤ 1000000) (ha : ∀ t ∈ ts, t.attrs.length ≤ 1000000) (h : St w0 G0 l W) (k : ∀ v' W', St w0 G0 l W' → Toks W' v' ts → RR v' W') : CallF Tryd.prog 14 #[v] W RR := by
  refine sh14_calls ?_
  unfold sh14
  obtain ⟨ov, ho, hs, hat⟩ := ht
  have l1 : ov.length = ts.length := by rw [← ho, List.length_map]
  have h0 : St w0 G0 (Ky (.slice none 0 0) (DtS []) :: Ky PoolK.a (KqD []) :: l) W := (St.kqNil PoolK.a atc 71 3 h).nilOw
  clear h
  refine lpx (α := Nat × Value × List (XTk × Value) × List (Value × List XAt)) (fun A => [A.2.1, nV .i64 A.1]) (fun A W' => A.1 ≤ ts.length ∧ A.2.2.1.map Prod.fst = ts.take A.1 ∧ (∀ p ∈ A.2.2.1, InP A.2.2.2 p) ∧ Cel1 A.2.1 ∧ St w0 G0 (Ky A.2.1 (DtS A.2.2.1) :: Ky PoolK.a (KqD A.2.2.2) :: l) W') (fun A => ts.length - A.1) (0, .slice none 0 0, [], []) (fun _ => rfl) rfl ⟨Nat.zero_le _, rfl, by simp, ⟨rfl⟩, h0⟩ ?_
  clear h0
  rintro next ⟨i, vq, oq, zs⟩ W1 hnext ⟨q1, q2, q3, ovq, h⟩
  simp only at q1 q2 q3 ovq h
  have hoql : oq.length = i := by have := congrArg List.length q2; rw [List.length_map, List.length_take] at this; omega
  refine app2 ?_
  refine x_lenS hs (a_lss (ifd (fun hc => ?_) fun hc => ?_))
  · have hi : i < ts.length := by omega
    have ga : ts[i]? = some ts[i] := List.getElem?_eq_getElem hi
    have hal := ha _ (List.getElem_mem hi)
    generalize ts[i] = t at ga hal
    obtain ⟨xa, hxa⟩ := tk_ov ho ga
    obtain ⟨hx1, hx3⟩ := hat _ (List.mem_of_getElem? hxa)
    replace hx3 : Sl w0 3 xa t.attrs.length (rcells atc t.attrs) := hx3
    have hxil : i < ov.length := by omega
    have hf : ∀ j u, j < 5 → (tcell (t, xa))[j]? = some u → (rcells tcell ov)[i * 5 + j]? = some u := fun j u hj hu => by rw [rc_get tcell_len hxa hj]; exact hu
    refine jni (fun vs W' => ∃ t5 : Nat, vs = [v, vq, nV .i64 i, .pointer (some ⟨t5, 0, none⟩)] ∧ St w0 G0 (Ky t5 (DTb ⟨t.kind, t.space, t.name, t.text, []⟩ (.slice none 0 0)) :: Ky vq (DtS oq) :: Ky PoolK.a (KqD zs) :: l) W') ?_ ?_
    · rintro vs W _ ⟨t5, rfl, h⟩
      refine app4 ?_
      have h1 : St w0 G0 (Ky (.slice none 0 0) (DaS []) :: Ky t5 (DTb ⟨t.kind, t.space, t.name, t.text, []⟩ (.slice none 0 0)) :: Ky vq (DtS oq) :: Ky PoolK.a (KqD zs) :: l) W := h.nilOw
      clear h
      refine lpx (α := Nat × Value) (fun A => [nV .i64 A.1]) (fun A W' => A.1 ≤ t.attrs.length ∧ Cel1 A.2 ∧ St w0 G0 (Ky A.2 (DaS (t.attrs.take A.1)) :: Ky t5 (DTb ⟨t.kind, t.space, t.name, t.text, []⟩ A.2) :: Ky vq (DtS oq) :: Ky PoolK.a (KqD zs) :: l) W') (fun A => t.attrs.length - A.1) (0, .slice none 0 0) (fun _ => rfl) rfl ⟨Nat.zero_le _, ⟨rfl⟩, h1⟩ ?_
      clear h1
      rintro next2 ⟨j, va⟩ W2 hnext2 ⟨r1, ova, h⟩
      simp only at r1 ova h
      refine app1 ?_
      refine x_fld (hs.below h.low) hxil (by decide) (hf 4 xa (by decide) rfl) ?_
      refine x_lenS hx3 (a_lss (ifd (fun hc2 => ?_) fun hc2 => ?_))
      · have hj : j < t.attrs.length := by omega
        have gj : t.attrs[j]? = some t.attrs[j] := List.getElem?_eq_getElem hj
        generalize t.attrs[j] = a at gj
        refine x_fld (hs.below h.low) hxil (by decide) (hf 4 xa (by decide) rfl) ?_
        refine x_rcl atc_len (hx3.below h.low) rfl gj ?_
        refine h.allocS fun t7 W h => ?_
        refine h.storeS (cs' := atc a) fun W h => ?_
        refine a_fld0 (h.load ?_)
        refine a_fld0 (h.load (a_fld0 (h.load (a_fld0 (h.load ?_)))))
        refine x_bld (cells := (atc a).toArray) rfl ?_
        refine h.lit fun uu W ou h => ?_
        refine h.app (v := va) (h.osl (v := uu)) (by intro a ha; simp only [List.mem_cons, List.not_mem_nil, or_false] at ha; rcases ha with rfl | rfl | rfl <;> rfl) (by rw [List.length_take]; unfold maxLen; omega) (by rw [List.length_take]; omega) fun va' W o' h _ => ?_
        refine a_fld0 (h.store fun W h => ?_)
        refine a_add64 (by omega) (by omega) ⟨rfl, rfl, rfl, rfl, ?_⟩
        rw [show ((j : Int) + 1) = ((j + 1 : Nat) : Int) by push_cast; rfl]
        have e0 : t.attrs.take (j + 1) = t.attrs.take j ++ [a] := by rw [List.take_add_one, gj]; rfl
        rw [show rcells atc (t.attrs.take j) ++ [strV a.space, strV a.name, strV a.value] = rcells atc (t.attrs.take (j + 1)) by rw [e0, rc_append, rc_single], show (t.attrs.take j).length + 1 = (t.attrs.take (j + 1)).length by rw [e0]; simp] at h
        exact hnext2 (j + 1, va') _ (by simp only; omega) ⟨by simp only; omega, o', h.to⟩
      · have hj : j = t.attrs.length := by omega
        rw [hj, List.take_length] at h
        replace h := h.kqAdd (k := PoolK.a) (v := va) (xs := t.attrs) rfl rfl
        refine h.loadS ?_
        refine h.lit fun uu W ou h => ?_
        refine h.app (v := vq) (h.osl (v := uu)) (by intro a ha; simp only [List.mem_cons, List.not_mem_nil, or_false] at ha; rcases ha with rfl | rfl | rfl | rfl | rfl; rfl; rfl; rfl; rfl; exact ova.one) (by unfold maxLen; omega) (by omega) fun vq' W o' h _ => ?_
        refine a_add64 (by omega) (by omega) ⟨rfl, ?_⟩
        rw [show ((i : Int) + 1) = ((i + 1 : Nat) : Int) by push_cast; rfl]
        have e1 : oq.length + 1 = (oq ++ [(t, va)]).length := by simp
        have e2 : rcells tcell oq ++ tcell (t, va) = rcells tcell (oq ++ [(t, va)]) := by rw [rc_append, rc_single]
        replace h : St w0 G0 (Ky vq' (Ow 59 5 (oq.length + 1) (rcells tcell oq ++ tcell (t, va))) :: Ky PoolK.a (KqD ((va, t.attrs) :: zs)) :: l) W := h.to
        rw [e2, e1] at h
        refine hnext (i + 1, vq', oq ++ [(t, va)], (va, t.attrs) :: zs) _ (by simp only; omega) ⟨by simp only; omega, ?_, ?_, o', h⟩
        · rw [List.map_append, q2, List.take_add_one, ga]; rfl
        · intro p hp
          rcases List.mem_append.1 hp with hp | hp
          · exact ⟨(q3 p hp).1, List.mem_cons_of_mem _ (q3 p hp).2⟩
          · rw [List.mem_singleton.1 hp]
            exact ⟨ova.one, List.mem_cons_self ..⟩
    · refine ⟨St w0 G0 (Ky vq (DtS oq) :: Ky PoolK.a (KqD zs) :: l), h.drew, ?_⟩
      replace h := h.drew
      have hS1 : ∀ w, St w0 G0 (Ky vq (DtS oq) :: Ky PoolK.a (KqD zs) :: l) w → Sl w 5 v ov.length (rcells tcell ov) := fun w hw => hs.below hw.low
      refine x_sfld (hS1 _ h) hS1 hxil (by decide) (hf 0 (.int .i64 t.kind) (by decide) rfl) ?_
      refine x_sfld (hS1 _ h) hS1 hxil (by decide) (hf 1 (strV t.space) (by decide) rfl) ?_
      refine x_sfld (hS1 _ h) hS1 hxil (by decide) (hf 2 (strV t.name) (by decide) rfl) ?_
      refine x_sfld (hS1 _ h) hS1 hxil (by decide) (hf 3 (strV t.text) (by decide) rfl) ?_
      refine ⟨?_, ?_, trivial⟩
      · refine x_bld (cells := (tcell (⟨t.kind, t.space, t.name, t.text, []⟩, .slice none 0 0)).toArray) rfl ?_
        refine h.allocS fun t5 W h => ?_
        refine h.storeS (cs' := tcell (⟨t.kind, t.space, t.name, t.text, []⟩, .slice none 0 0)) fun W h => ?_
        exact ⟨t5, rfl, h.to⟩
      · refine h.allocS fun t5 W h => ⟨h.tail, ?_⟩
        refine x_bld (cells := (tcell (⟨t.kind, t.space, t.name, t.text, []⟩, .slice none 0 0)).toArray) rfl ?_
        refine h.storeS (cs' := tcell (⟨t.kind, t.space, t.name, t.text, []⟩, .slice none 0 0)) fun W h => ?_
        exact ⟨t5, rfl, h.to⟩
  · have hi : i = ts.length := by omega
    rw [hi, List.take_length] at q2
    refine k vq _ h.tail.tail ⟨oq, q2, h.osl (v := vq), fun p hp => ⟨(q3 p hp).1, h.kqGet (k := PoolK.a) (q3 p hp).2⟩⟩
end
end Go.Proofs.YtlflpbflpcmckaaDoor
namespace Go.Ez
open Go Go.Proofs Go.RowKit
set_option linter.unusedSimpArgs false
set_option linter.unusedVariables false
section
variable (P : Program) (w0 : World) (G : Nat → Prop)
/-- what is asked of a yield: told the i-th, with a value that stands on H i, the taker's own goes from C i to C (i + 1); or it stops, at D (i + 1) -/
def YlV (yv : Value) (n : Nat) (X : Nat → Value → List Value) (H : Nat → Value → As) (C D : Nat → As) : Prop :=
  ∀ i, i < n → ∀ (va : Value) (I : List As) (W : World) (K : Value → World → Prop), Cel1 va → St w0 G (Ky va (H i) :: Ky i C :: I) W →
    (∀ W', St w0 G (Ky (i + 1) C :: I) W' → K (.bool true) W') → (∀ W', St w0 G (Ky (i + 1) D :: I) W' → K (.bool false) W') → CallV P yv (X i va).toArray W K
/-- f tells n; A is what it stands on -/
def ItV (f : Value) (n : Nat) (X : Nat → Value → List Value) (H : Nat → Value → As) (A : Value → As) : Prop :=
  ∃ gf lb, f = .func (.func gf) #[] lb ∧ Enters P gf ∧ ∀ (yv : Value) (C D : Nat → As) (I : List As) (W : World) (R : Value → World → Prop), Cel1 yv → YlV P w0 G yv n X H C D → St w0 G (Ky 0 C :: Ky f A :: I) W →
    (∀ W', St w0 G (Ky n C :: Ky f A :: I) W' → R (.tuple #[]) W') → (∀ i W', i ≤ n → St w0 G (Ky i D :: Ky f A :: I) W' → R (.tuple #[]) W') → CallF P gf (#[yv] ++ lb) W R
end
section
variable {P : Program} {w0 W : World} {G : Nat → Prop} {l R : List As}
/-- a range over such an iterator -/
theorem rngV {np nl n : Nat} {asg : Nat → FnN nl → FnN np} {bdy : Nat → (World → Prop) → (Code → World → Prop) → FnN nl} {f : Value} {kdone : Nat → World → Prop} {kstop : Nat → Code → World → Prop} {X : Nat → Value → List Value} {H : Nat → Value → As} {A : Value → As}
    (C : Nat → As) (Dd : Code → Nat → As) (hI : ItV P w0 G f n X H A) (hx : ∀ i va, (X i va).length = np) (h : St w0 G (Ky 0 C :: Ky f A :: l) W)
    (hbody : ∀ (i : Nat), i < n → ∀ (va : Value) (ll : Nat) (rec : LoopState → Option Code → Loop) (I : List As) (W : World) (kn : World → Prop) (ks : Code → World → Prop), Cel1 va → St w0 G (Ky va (H i) :: Ky ll (Ob (.loop (rec .ready none))) :: Ky i C :: I) W →
      (∀ W', St w0 G (Ky ll (Ob (.loop (rec .busy none))) :: Ky (i + 1) C :: I) W' → kn W') → (∀ c W', St w0 G (Ky ll (Ob (.loop (rec .busy none))) :: Ky (i + 1) (Dd c) :: I) W' → ks c W') →
      appN np (asg ll (lamN nl fun vs W2 => W2.heap[ll]? = some (.loop (rec .ready none)) ∧ appN nl (bdy ll kn ks) vs (W2.putObj ll (.loop (rec .busy none))))) (X i va) W)
    (hdone : ∀ D W', St w0 G (Ky D (Ob (.deferred (some []))) :: Ky n C :: Ky f A :: l) W' → kdone D W')
    (hstop : ∀ D c i W', i ≤ n → St w0 G (Ky D (Ob (.deferred (some []))) :: Ky i (Dd c) :: Ky f A :: l) W' → kstop D c W') :
    rngP P none np nl asg bdy f W kdone kstop := by
  obtain ⟨gf, lb, rfl, hen, hrun⟩ := hI
  refine ⟨(fun l0 hl0 => nomatch hl0), gf, lb, rfl, hen, ?_⟩
  intro ll D rec W1 hll hlt hD hW1 hL hDD hround
  obtain ⟨hD1, hD2⟩ := hD rfl
  have hDD := hDD rfl
  -- the two new blocks
  have h1 : St w0 G (As.all True [Ky ll (Ob (.loop (rec .ready none))), Ky D (Ob (.deferred (some [])))] :: Ky 0 C :: Ky (.func (.func gf) #[] lb) A :: l) W1 := by
    refine h.new (F := fun x => x = ll ∨ x = D) hW1 ⟨trivial, fun x => x = ll, fun x => x = D, ⟨fun _ => Iff.rfl, hL⟩, ⟨fun x => x = D, fun _ => False, ⟨fun _ => Iff.rfl, hDD⟩, fun _ h => h, fun _ _ h => h, fun _ => by simp⟩, fun b h1 h2 => by omega, fun _ => Iff.rfl⟩ ?_
    rintro b (rfl | rfl) <;> omega
  have h2 : St w0 G (Ky ll (Ob (.loop (rec .ready none))) :: Ky D (Ob (.deferred (some []))) :: Ky 0 C :: Ky (.func (.func gf) #[] lb) A :: l) W1 := h1.openA.2
  let C' : Nat → As := fun i => As.all True [Ky ll (Ob (.loop (rec .ready none))), Ky i C]
  let D' : Nat → As := fun i => As.ex fun c : Code => As.all True [Ky ll (Ob (.loop (rec .done (some c)))), Ky i (Dd c)]
  have h3 : St w0 G (Ky 0 C' :: Ky (.func (.func gf) #[] lb) A :: Ky D (Ob (.deferred (some []))) :: l) W1 := by
    refine St.shutA trivial (?_ : St w0 G (Ky ll (Ob (.loop (rec .ready none))) :: Ky 0 C :: Ky (.func (.func gf) #[] lb) A :: Ky D (Ob (.deferred (some []))) :: l) W1)
    obtain ⟨F, hF, hG⟩ := h2.own
    exact { h2 with own := ⟨F, sepL_mono (fun F w h => sepL_mono (fun F w h => sepL_swap h) (sepL_swap h)) hF, hG⟩ }
  refine hrun (.func (.yield ll) #[] #[]) C' D' (Ky D (Ob (.deferred (some []))) :: l) W1 _ ⟨rfl⟩ ?_ h3 ?_ ?_
  · intro i hin va I W K ova h kt kf
    have h4 : St w0 G (Ky ll (Ob (.loop (rec .ready none))) :: Ky i C :: Ky va (H i) :: I) W := (St.openA (show St w0 G (As.all True [Ky ll (Ob (.loop (rec .ready none))), Ky i C] :: Ky va (H i) :: I) W from h.swap)).2
    have h5 : St w0 G (Ky va (H i) :: Ky ll (Ob (.loop (rec .ready none))) :: Ky i C :: I) W := by
      obtain ⟨F, hF, hG⟩ := h4.own
      exact { h4 with own := ⟨F, sepL_swap (sepL_mono (fun F w h => sepL_swap h) hF), hG⟩ }
    refine hround (X i va) W K (hx i va) (h4.ob (b := ll)) ?_
    refine hbody i hin va ll rec I W _ _ ova h5 (fun W' h5 => ?_) fun c W' h5 => ?_
    · refine ⟨h5.ob (b := ll), kt _ ?_⟩
      exact St.shutA (L := [Ky ll (Ob (.loop (rec .ready none))), Ky (i + 1) C]) trivial (h5.putO (b := ll) (o := .loop (rec .busy none)) (.loop (rec .ready none)))
    · refine ⟨h5.ob (b := ll), kf _ ?_⟩
      exact St.shutE c (St.shutA (L := [Ky ll (Ob (.loop (rec .done (some c)))), Ky (i + 1) (Dd c)]) trivial (h5.putO (b := ll) (o := .loop (rec .busy none)) (.loop (rec .done (some c)))))
  · intro W' h4
    have h5 : St w0 G (Ky ll (Ob (.loop (rec .ready none))) :: Ky n C :: Ky (.func (.func gf) #[] lb) A :: Ky D (Ob (.deferred (some []))) :: l) W' := (St.openA (show St w0 G (As.all True [Ky ll (Ob (.loop (rec .ready none))), Ky n C] :: _) W' from h4)).2
    refine Or.inl ⟨h5.ob (b := ll), hdone D _ ?_⟩
    exact (h5.putO (b := ll) (o := .loop (rec .ready none)) (.loop (rec .exhausted none))).to
  · intro i W' hi h4
    obtain ⟨c, h4⟩ := St.openE (show St w0 G (As.ex (fun c : Code => As.all True [Ky ll (Ob (.loop (rec .done (some c)))), Ky i (Dd c)]) :: _) W' from h4)
    have h5 : St w0 G (Ky ll (Ob (.loop (rec .done (some c)))) :: Ky i (Dd c) :: Ky (.func (.func gf) #[] lb) A :: Ky D (Ob (.deferred (some []))) :: l) W' := (St.openA h4).2
    refine Or.inr ⟨c, h5.ob (b := ll), hstop D c i _ hi ?_⟩
    exact (h5.putO (b := ll) (o := .loop (rec .done (some c))) (.loop (rec .exhausted (some c)))).to
end
end Go.Ez
namespace Go.Ez
open Go
/-- how much deeper a token leads -/
def kd (k : Int) : Int := if k = 1 then 1 else if k = 2 then -1 else 0
def txOf (t : XTk) : Txt := if t.kind = 3 then t.text else []
/-- the texts up to the end of what began; how many tokens stand ahead of that end -/
def inGo : List XTk → Int → Txt → Txt × Option Nat
  | [], _, b => (b, none)
  | t :: l, d, b => if d + kd t.kind = 0 then (b ++ txOf t, some 0) else ((inGo l (d + kd t.kind) (b ++ txOf t)).1, (inGo l (d + kd t.kind) (b ++ txOf t)).2.map (· + 1))
def innerX (ts : List XTk) (at_ : Int) : Txt × Int :=
  if at_ < 0 ∨ (ts.length : Int) ≤ at_ then ([], at_) else
  match ts[at_.toNat]? with
  | none => ([], at_)
  | some t => if t.kind ≠ 1 then ([], at_) else
    ((inGo (ts.drop at_.toNat) 0 []).1, match (inGo (ts.drop at_.toNat) 0 []).2 with | some j => at_ + j + 1 | none => ts.length)
theorem inGo_step {t : XTk} {l : List XTk} {d : Int} {b : Txt} (h : d + kd t.kind ≠ 0) {i : Nat} {x : Txt × Option Nat} (hx : x = ((inGo (t :: l) d b).1, (inGo (t :: l) d b).2.map (· + i))) : x = ((inGo l (d + kd t.kind) (b ++ txOf t)).1, (inGo l (d + kd t.kind) (b ++ txOf t)).2.map (· + (i + 1))) := by
  subst hx
  simp only [inGo, if_neg h, Option.map_map]
  refine Prod.ext rfl ?_
  dsimp only
  cases (inGo l (d + kd t.kind) (b ++ txOf t)).2 with
  | none => rfl
  | some j => simp only [Option.map_some, Function.comp]; congr 1; omega
theorem kd_le (k : Int) : -1 ≤ kd k ∧ kd k ≤ 1 := by unfold kd; split; omega; split <;> omega
end Go.Ez
namespace Go.Proofs.YtlflpbflpcmckaaDoor
open Go Go.Ez Go.RowKit Go.Lib
set_option linter.unusedSimpArgs false
set_option linter.unusedVariables false
section
variable {w0 W W' : World} {G : Nat → Prop} {l R R1 R2 : List As} {RR : Value → World → Prop} {s : Txt} {v va vb : Value} {ts us : List XTk} {t u : XTk} {i n b : Nat} {K : Value → Prop} {k0 : IntKind} {o : List XAt}
theorem atc_one (a : XAt) : ∀ c ∈ atc a, c.oneCell' = true := by
  intro c hc
  simp only [List.mem_cons, List.not_mem_nil, or_false] at hc
  rcases hc with rfl | rfl | rfl <;> rfl
theorem clone_spec (hs : Sl w0 3 va o.length (rcells atc o)) (ho : o.length ≤ 1000000) (h : St w0 G0 l W) (k : ∀ v' W', Cel1 v' → St w0 G0 (Ky v' (AtS o) :: l) W' → RR v' W') : CallF Tryd.prog 36 #[va] W RR := by
  refine sh36_calls ?_
  unfold sh36
  refine w_nilSE Tryd.underlying28 hs fun bb hbb => ?_
  cases bb with
  | true =>
    obtain ⟨rfl, h0⟩ := hbb rfl
    have : o = [] := List.eq_nil_of_length_eq_zero h0
    subst this
    refine ift ?_
    exact k _ W ⟨rfl⟩ h.nilOw
  | false =>
    refine iff' ?_
    refine h.lit fun uu W ou h => ?_
    refine h.app (v := uu) (hs.below h.low) (rc_one atc_one o) (by unfold maxLen; omega) (by omega) fun va' W o' h _ => ?_
    rw [List.nil_append, Nat.zero_add] at h
    exact k _ W o' h
abbrev eachFn (b : Nat) : Value := .func (.func 35) #[] #[.pointer (some ⟨b, 0, none⟩)]
/-- what Each's answer stands on -/
def ItE (b : Nat) (v : Value) (_ : Value) : As := Ky b (Ob (.cells [v].toArray 24 (0, 0)))
def eachX (ts : List XTk) (i : Nat) (va : Value) : List Value := [nV .i64 i, .agg (tcell (ts.getD i default, va)).toArray]
def eachH (ts : List XTk) (i : Nat) : Value → As := AtS (ts.getD i default).attrs
theorem each_itr (ht : Toks w0 v ts) (hn : ts.length ≤ 1000000) (ha : ∀ t ∈ ts, t.attrs.length ≤ 1000000) : ItV Tryd.prog w0 G0 (eachFn b) ts.length (eachX ts) (eachH ts) (ItE b v) := by
  obtain ⟨ov, ho, hs, hat⟩ := ht
  have l1 : ov.length = ts.length := by rw [← ho, List.length_map]
  refine ⟨35, _, rfl, hentD _ (by kernel_rfl), fun yv C D I W RR oy hY h hd hst => ?_⟩
  show CallF Tryd.prog 35 #[yv, .pointer (some ⟨b, 0, none⟩)] W RR
  refine sh35_calls ?_
  unfold sh35
  replace h : St w0 G0 (Ky 0 C :: Ky b (Ob (.cells [v].toArray 24 (0, 0))) :: I) W := h
  refine h.load ?_
  refine x_lenS hs ?_
  refine lpx (α := Nat) (fun i => [nV .i64 i]) (fun i W => i ≤ ts.length ∧ St w0 G0 (Ky i C :: Ky b (Ob (.cells [v].toArray 24 (0, 0))) :: I) W) (fun i => ts.length - i) 0 (fun _ => rfl) rfl ⟨Nat.zero_le _, h⟩ ?_
  clear h
  rintro next i W hnext ⟨hi, h⟩
  refine app1 ?_
  refine a_lss (ifd (fun hc => ?_) fun hc => ?_)
  · have hil : i < ts.length := by omega
    have ga : ts[i]? = some ts[i] := List.getElem?_eq_getElem hil
    have hal := ha _ (List.getElem_mem hil)
    have hgd : ts.getD i default = ts[i] := by rw [List.getD_eq_getElem?_getD, ga]; rfl
    generalize ts[i] = t at ga hal hgd
    obtain ⟨xa, hxa⟩ := tk_ov ho ga
    obtain ⟨hx1, hx3⟩ := hat _ (List.mem_of_getElem? hxa)
    replace hx3 : Sl w0 3 xa t.attrs.length (rcells atc t.attrs) := hx3
    haveI : Cel1 xa := ⟨hx1⟩
    refine x_rcl tcell_len (hs.below h.low) rfl hxa ?_
    refine h.allocS fun t4 W h => ?_
    refine h.storeS (cs' := tcell (t, xa)) fun W h => ?_
    refine a_fld0 (h.load ?_)
    refine clone_spec hx3 hal h fun vc W oc h => ?_
    refine a_fld0 (h.store fun W h => ?_)
    refine h.loadS ?_
    have hy := hY i hil vc (Ky b (Ob (.cells [v].toArray 24 (0, 0))) :: I) W
    unfold eachX eachH at hy
    rw [hgd] at hy
    refine hy _ oc h.to (fun W h => ?_) fun W h => ?_
    · refine a_not (iff' ?_)
      refine a_add64 (by omega) (by omega) ⟨rfl, rfl, rfl, ?_⟩
      rw [show ((i : Int) + 1) = ((i + 1 : Nat) : Int) by push_cast; rfl]
      exact hnext (i + 1) W (by omega) ⟨by omega, h⟩
    · refine a_not (ift ?_)
      exact hst (i + 1) W (by omega) h
  · have hil : i = ts.length := by omega
    subst hil
    exact hd W h
theorem each_spec (ht : Toks w0 v ts) (h : St w0 G0 l W) (k : ∀ b W', St w0 G0 (Ky (eachFn b) (ItE b v) :: l) W' → RR (eachFn b) W') : CallF Tryd.prog 21 #[v] W RR := by
  refine sh21_calls ?_
  unfold sh21
  obtain ⟨ov, ho, hs, hat⟩ := ht
  have oc : Cel1 v := Cel1.of_sl hs
  refine h.boxV fun b W h => ?_
  refine v_func ?_
  exact k b W h
/-- tokens from a place on -/
theorem Toks.drop {q : Nat} (ht : Toks W v ts) (hq : q ≤ ts.length) {k1 : IntKind} (k : ∀ v', Toks W v' (ts.drop q) → K v') : RunA Tryd.prog (Instr.sliceAt 24 v (some (.int k1 (q : Int))) none none) K := by
  obtain ⟨ov, ho, hs, hat⟩ := ht
  have l1 : ov.length = ts.length := by rw [← ho, List.length_map]
  refine a_sliceL (SlT.el (P := Tryd.prog) (t := 24)) hs (by omega) (by omega) fun v' hv' => k v' ⟨ov.drop q, by rw [List.map_drop, ho], ?_, fun p hp => hat p (List.mem_of_mem_drop hp)⟩
  rw [Int.toNat_natCast, ← rc_drop tcell_len] at hv'
  rw [List.length_drop]
  exact hv'
abbrev InL (t3 t4 t5 t6 t7 : Nat) (at_ : Int) (s : Txt) (j d : Int) (b : Txt) (R : List As) : List As := Ky t3 (Ob (.cells [(.int .i64 at_ : Value)].toArray 3 (0, 0))) :: Ky t4 (Ob (.cells [strV s].toArray 9 (0, 0))) :: Ky t5 (Ob (.cells [(.int .i64 j : Value)].toArray 3 (0, 0))) :: Ky t6 (Bu b) :: Ky t7 (Ob (.cells [(.int .i64 d : Value)].toArray 3 (0, 0))) :: R
abbrev InC (t3 t4 t5 t6 t7 : Nat) (at_ : Int) (us : List XTk) (i : Nat) : As := As.ex fun x : Int × Txt => As.all (inGo us 0 [] = ((inGo (us.drop i) x.1 x.2).1, (inGo (us.drop i) x.1 x.2).2.map (· + i)) ∧ -(i : Int) ≤ x.1 ∧ x.1 ≤ i ∧ x.2.length ≤ i * 1000000) (InL t3 t4 t5 t6 t7 at_ [] 0 x.1 x.2 [])
abbrev InD (t3 t4 t5 t6 t7 : Nat) (at_ : Int) (us : List XTk) (c : Code) (_ : Nat) : As := As.ex fun x : Txt × Nat => As.all (c = .ret ∧ inGo us 0 [] = (x.1, some x.2)) [Ky t4 (Ob (.cells [strV x.1].toArray 9 (0, 0))), Ky t5 (Ob (.cells [(.int .i64 (at_ + x.2 + 1) : Value)].toArray 3 (0, 0)))]
theorem inner_spec (ht : Toks w0 v ts) (hn : ts.length ≤ 90000) (ha : ∀ t ∈ ts, t.attrs.length ≤ 1000000) (htx : ∀ t ∈ ts, t.text.length ≤ 1000000) {at_ : Int} (h : St w0 G0 l W) (k : ∀ W', St w0 G0 l W' → RR (.tuple #[strV (innerX ts at_).1, .int .i64 (innerX ts at_).2]) W') : CallF Tryd.prog 17 #[v, .int .i64 at_] W RR := by
  refine sh17_calls ?_
  unfold sh17
  obtain ⟨cs, hcs⟩ := tk_len ht
  refine h.boxV fun t3 W h => ?_
  refine h.alloc fun t4 W h => ?_
  refine h.alloc fun t5 W h => ?_
  have out : innerX ts at_ = ([], at_) → ∀ W, St w0 G0 (Ky t5 (Ob (.cells [(.int .i64 0 : Value)].toArray 3 (0, 0))) :: Ky t4 (Ob (.cells [strV []].toArray 9 (0, 0))) :: Ky t3 (Ob (.cells [(.int .i64 at_ : Value)].toArray 3 (0, 0))) :: l) W → RR (.tuple #[strV [], .int .i64 at_]) W := fun e W h => by
    rw [e] at k
    exact k _ h.to
  have early : innerX ts at_ = ([], at_) → ∀ W, St w0 G0 (Ky t5 (Ob (.cells [(.int .i64 0 : Value)].toArray 3 (0, 0))) :: Ky t4 (Ob (.cells [strV []].toArray 9 (0, 0))) :: Ky t3 (Ob (.cells [(.int .i64 at_ : Value)].toArray 3 (0, 0))) :: l) W →
      drw (fun S w => RunS Tryd.prog S (Instr.loadAt 3 (.pointer (some ⟨t3, 0, none⟩))) fun t26 => RunU Tryd.prog (Instr.storeAt 9 (.pointer (some ⟨t4, 0, none⟩)) (.string ⟨#[]⟩)) w fun w => S w ∧ (RunU Tryd.prog (Instr.storeAt 3 (.pointer (some ⟨t5, 0, none⟩)) t26) w fun w => RunW Tryd.prog (Instr.loadAt 9 (.pointer (some ⟨t4, 0, none⟩))) w fun x => RunW Tryd.prog (Instr.loadAt 3 (.pointer (some ⟨t5, 0, none⟩))) w fun y => RR (.tuple #[x, y]) w)) W := fun e W h => by
    rw [e] at k
    refine ⟨St w0 G0 [Ky t3 (Ob (.cells [(.int .i64 at_ : Value)].toArray 3 (0, 0)))], h.drew.to, ?_⟩
    replace h := h.drew
    refine ss_load ?_
    refine h.store fun W h => ⟨h.to, ?_⟩
    refine h.store fun W h => ?_
    refine h.load (h.load ?_)
    exact k _ h.to
  refine h.load (a_lss (ifd (fun hc => ?_) fun h1 => ?_))
  · exact early (by unfold innerX; rw [if_pos (.inl hc)]) W h
  refine h.load (x_lenS hcs (a_geq (ifd (fun hc => ?_) fun h2 => ?_)))
  · exact early (by unfold innerX; rw [if_pos (.inr hc)]) W h
  obtain ⟨q, rfl⟩ : ∃ q : Nat, at_ = (q : Int) := ⟨at_.toNat, by omega⟩
  have hq : q < ts.length := by omega
  have ga : ts[q]? = some ts[q] := List.getElem?_eq_getElem hq
  generalize ts[q] = t at ga
  refine h.load (x_tk (u := .int .i64 t.kind) (ht.below h.low) ga (by decide) (fun va => rfl) (w_neq (ifd (fun hc => ?_) fun h3 => ?_)))
  · exact early (by unfold innerX; rw [if_neg (by omega), Int.toNat_natCast, ga]; exact if_pos hc) W h
  have hin : innerX ts q = ((inGo (ts.drop q) 0 []).1, match (inGo (ts.drop q) 0 []).2 with | some j => (q : Int) + j + 1 | none => ts.length) := by
    unfold innerX
    rw [if_neg (by omega), Int.toNat_natCast, ga]
    dsimp only
    rw [if_neg h3]
  rw [hin] at k
  clear early
  refine h.allocS fun t6 W h => ?_
  replace h := buNew h
  refine h.alloc fun t7 W h => ?_
  refine h.store fun W h => ?_
  refine h.load ?_
  refine ht.drop (by omega) fun vd htd => ?_
  have hul : (ts.drop q).length ≤ 90000 := by rw [List.length_drop]; omega
  have hua : ∀ t ∈ ts.drop q, t.attrs.length ≤ 1000000 := fun t ht => ha t (List.mem_of_mem_drop ht)
  have hux : ∀ t ∈ ts.drop q, t.text.length ≤ 1000000 := fun t ht => htx t (List.mem_of_mem_drop ht)
  generalize hus : ts.drop q = us at *
  refine each_spec htd h fun bE W h => ?_
  have hE := each_itr (b := bE) htd (by omega) hua
  refine rngV (C := InC t3 t4 t5 t6 t7 q us) (InD t3 t4 t5 t6 t7 q us) hE (fun i va => rfl) (l := l) ?_ ?_ ?_ ?_
  · refine St.shutE (0, []) (St.shut5 (⟨?_, by decide, by decide, by simp⟩) h.to)
    simp
  · intro i hi va ll rec I' W kn kst ova h hn' hk
    have gu : us[i]? = some us[i] := List.getElem?_eq_getElem hi
    have hgd : us.getD i default = us[i] := by rw [List.getD_eq_getElem?_getD, gu]; rfl
    have hdr : us.drop i = us[i] :: us.drop (i + 1) := List.drop_eq_getElem_cons hi
    have hxt := hux _ (List.getElem_mem hi)
    unfold eachX
    rw [hgd]
    generalize us[i] = t at *
    refine app2 ?_
    refine h.allocS fun t9 W h => ?_
    refine h.storeS (cs' := tcell (t, va)) fun W h => ?_
    refine ⟨h.ob (b := ll), ?_⟩
    replace h := h.putO (b := ll) (o := .loop (rec .ready none)) (.loop (rec .busy none))
    replace h : St w0 G0 (Ky i (InC t3 t4 t5 t6 t7 q us) :: Ky ll (Ob (.loop (rec .busy none))) :: Ky t9 (Ob (.cells (tcell (t, va)).toArray 30 (0, 0))) :: I') _ := h.to
    obtain ⟨⟨d, b⟩, h⟩ := St.openE h
    obtain ⟨⟨hx, hd1, hd2, hbl⟩, h⟩ := St.open5 h
    simp only at hx hd1 hd2 hbl
    rw [hdr] at hx
    refine app7 ?_
    refine a_fld0 (h.load ?_)
    have hkd := kd_le t.kind
    have hbl2 : (b ++ txOf t).length ≤ (i + 1) * 1000000 := by
      rw [List.length_append]
      have : (txOf t).length ≤ 1000000 := by unfold txOf; split; exact hxt; simp
      omega
    refine jni (fun vs W' => vs = [.pointer (some ⟨t3, 0, none⟩), .pointer (some ⟨t4, 0, none⟩), .pointer (some ⟨t5, 0, none⟩), .pointer (some ⟨t6, 0, none⟩), .pointer (some ⟨t7, 0, none⟩), nV .i64 i] ∧ St w0 G0 (InL t3 t4 t5 t6 t7 q [] 0 (d + kd t.kind) (b ++ txOf t) (Ky ll (Ob (.loop (rec .busy none))) :: I')) W') ?_ ?_
    · rintro vs W _ ⟨rfl, h⟩
      refine app6 ?_
      refine h.load (w_eql (ifd (fun h0 => ?_) fun h0 => ?_))
      · refine ⟨St w0 G0 [Ky t3 (Ob (.cells [(.int .i64 (q : Int) : Value)].toArray 3 (0, 0)))], h.drew.to, ?_⟩
        replace h := h.drew
        refine ss_load (a_add64 (by omega) (by omega) (a_add64 (by omega) (by omega) ?_))
        refine bstr_spec (b := t6) (t := b ++ txOf t) h (by omega) fun W h => ⟨h.to, ?_⟩
        refine h.store fun W h => ⟨h.to, ?_⟩
        refine h.store fun W h => ?_
        refine hk .ret W (St.swap (St.shutE (b ++ txOf t, i) (St.shut2 ⟨rfl, ?_⟩ h.to)))
        rw [hx]
        simp only [inGo, if_pos h0, Option.map_some, Nat.zero_add]
      · refine hn' W (St.swap (St.shutE (d + kd t.kind, b ++ txOf t) (St.shut5 ⟨inGo_step h0 hx, by omega, by omega, hbl2⟩ h.to)))
    · refine w_eql (ifd (fun k1 => ?_) fun k1 => ?_)
      · have e1 : kd t.kind = 1 := by unfold kd; rw [if_pos k1]
        have e2 : txOf t = [] := by unfold txOf; rw [show t.kind = 1 from k1]; rfl
        rw [e1, e2, List.append_nil]
        refine h.load (a_add64 (by omega) (by omega) (h.store fun W h => ⟨rfl, h.to⟩))
      refine jni (fun vs W' => vs = [.pointer (some ⟨t3, 0, none⟩), .pointer (some ⟨t4, 0, none⟩), .pointer (some ⟨t5, 0, none⟩), .pointer (some ⟨t6, 0, none⟩), .pointer (some ⟨t7, 0, none⟩), nV .i64 i] ∧ St w0 G0 (InL t3 t4 t5 t6 t7 q [] 0 (d + kd t.kind) (b ++ txOf t) (Ky ll (Ob (.loop (rec .busy none))) :: I')) W') (by rintro vs W _ ⟨rfl, h⟩; exact app6 ⟨rfl, h⟩) ?_
      refine w_eql (ifd (fun k2 => ?_) fun k2 => ?_)
      · have e1 : kd t.kind = -1 := by unfold kd; rw [if_neg k1, if_pos k2]
        have e2 : txOf t = [] := by unfold txOf; rw [show t.kind = 2 from k2]; rfl
        rw [e1, e2, List.append_nil]
        refine h.load (a_sub64 (by omega) (by omega) (h.store fun W h => ⟨rfl, ?_⟩))
        rw [show d - 1 = d + -1 by omega] at h
        exact h.to
      refine jni (fun vs W' => vs = [.pointer (some ⟨t3, 0, none⟩), .pointer (some ⟨t4, 0, none⟩), .pointer (some ⟨t5, 0, none⟩), .pointer (some ⟨t6, 0, none⟩), .pointer (some ⟨t7, 0, none⟩), nV .i64 i] ∧ St w0 G0 (InL t3 t4 t5 t6 t7 q [] 0 (d + kd t.kind) (b ++ txOf t) (Ky ll (Ob (.loop (rec .busy none))) :: I')) W') (by rintro vs W _ ⟨rfl, h⟩; exact app6 ⟨rfl, h⟩) ?_
      have e1 : kd t.kind = 0 := by unfold kd; rw [if_neg k1, if_neg k2]
      rw [e1, Int.add_zero]
      refine w_eql (ifd (fun k3 => ?_) fun k3 => ?_)
      · have e2 : txOf t = t.text := by unfold txOf; rw [if_pos k3]
        rw [e2] at hbl2 ⊢
        refine a_fld0 (h.load ?_)
        refine wstr_spec (b := t6) (t := b) (s := t.text) h (by omega) fun W h => ⟨rfl, h.to⟩
      · have e2 : txOf t = [] := by unfold txOf; rw [if_neg k3]
        rw [e2, List.append_nil]
        exact ⟨rfl, h.to⟩
  · intro D W h
    replace h : St w0 G0 (Ky us.length (InC t3 t4 t5 t6 t7 q us) :: Ky D (Ob (.deferred (some []))) :: Ky (eachFn bE) (ItE bE vd) :: l) W := h.swap
    obtain ⟨⟨d, b⟩, h⟩ := St.openE h
    obtain ⟨⟨hx, hd1, hd2, hbl⟩, h⟩ := St.open5 h
    simp only at hx hd1 hd2 hbl
    rw [List.drop_length] at hx
    simp only [inGo, Option.map_none] at hx
    rw [hx] at k
    dsimp only at k
    refine bstr_spec (b := t6) (t := b) h (by omega) fun W h => ?_
    refine x_lenS hcs ?_
    refine h.store fun W h => ?_
    refine h.store fun W h => ?_
    refine ⟨h.ob (b := D), ?_⟩
    replace h := h.putO (b := D) (o := .deferred (some [])) (.deferred none)
    refine h.load (h.load ?_)
    exact k _ h.to
  · intro D c i W hi h
    replace h : St w0 G0 (Ky i (InD t3 t4 t5 t6 t7 q us c) :: Ky D (Ob (.deferred (some []))) :: Ky (eachFn bE) (ItE bE vd) :: l) W := h.swap
    obtain ⟨⟨b, j⟩, h⟩ := St.openE h
    obtain ⟨⟨hcc, hx⟩, h2⟩ := St.open2 h
    clear h
    subst hcc
    have h := h2
    clear h2
    simp only at hx h
    rw [hx] at k
    dsimp only at k
    refine ⟨h.ob (b := D), ?_⟩
    replace h := h.putO (b := D) (o := .deferred (some [])) (.deferred none)
    refine h.load (h.load ?_)
    exact k _ h.to
end
end Go.Proofs.YtlflpbflpcmckaaDoor
