/-
  FILES THAT FALL: DiskPrefix: it returns true.
-/
import Derived.Test.YtdoopdbfajgnjaaDkJ
namespace Go.Ez
open Go Go.Proofs Go.RowKit
set_option linter.unusedSimpArgs false
set_option linter.unusedVariables false
/-- what an operation makes pend -/
def chgOf (room : Int) (m : Fm) (o : OpM) : Option Chg :=
  if o.kind = 2 then (if okN o.name = true ∧ ¬ room - tot m < o.bytes.length ∧ ¬ (o.bytes = [] ∧ (getK o.name m).isSome = true) then some (.puts o.name o.bytes) else none)
  else if o.kind = 3 then (if okN o.name = true ∧ getK o.name m ≠ none ∧ ¬ (o.a < 0 ∨ (gt o.name m).length < o.a) ∧ o.a ≠ (gt o.name m).length then some (.cuts o.name o.a.toNat) else none)
  else if o.kind = 4 then (if (okN o.name = true ∧ okN o.to = true) ∧ getK o.name m ≠ none ∧ o.name ≠ o.to then some (.names o.name o.to) else none)
  else if o.kind = 5 then (if okN o.name = true ∧ getK o.name m ≠ none then some (.takes o.name) else none) else none
theorem op1_chg {d : Dd} (h : d.Q) (o : OpM) : (op1 d o).dur = d.dur ∧ (op1 d o).room = d.room ∧ (op1 d o).pend = d.pend ++ (chgOf d.room d.now o).toList ∧ pendsP d o = (chgOf d.room d.now o).isSome := by
  unfold op1 pendsP chgOf
  by_cases h2 : o.kind = 2
  · simp only [if_pos h2]
    rw [appendP_Q h]
    by_cases a1 : okN o.name = true
    · rw [if_pos a1]
      by_cases a2 : d.room - tot d.now < o.bytes.length
      · rw [if_pos a2, if_neg (fun hx => hx.2.1 a2)]
        exact ⟨rfl, rfl, (List.append_nil _).symm, rfl⟩
      · rw [if_neg a2]
        by_cases a3 : o.bytes = [] ∧ (getK o.name d.now).isSome = true
        · rw [if_pos a3, if_neg (fun hx => hx.2.2 a3)]
          refine ⟨rfl, rfl, (List.append_nil _).symm, ?_⟩
          rw [a3.1, a3.2]; rfl
        · rw [if_neg a3, if_pos ⟨a1, a2, a3⟩]
          refine ⟨rfl, rfl, rfl, ?_⟩
          cases hb : o.bytes with
          | nil =>
            have : (getK o.name d.now).isSome = false := by
              cases hq : (getK o.name d.now).isSome
              · rfl
              · exact absurd ⟨hb, hq⟩ a3
            rw [this]; rfl
          | cons x l => simp
    · rw [if_neg a1, if_neg (fun hx => a1 hx.1)]
      exact ⟨rfl, rfl, (List.append_nil _).symm, rfl⟩
  simp only [if_neg h2]
  by_cases h3 : o.kind = 3
  · simp only [if_pos h3]
    rw [cutP_Q h]
    by_cases a1 : okN o.name = true
    · rw [if_pos a1]
      by_cases a2 : getK o.name d.now = none
      · rw [if_pos a2, if_neg (fun hx => hx.2.1 a2)]
        exact ⟨rfl, rfl, (List.append_nil _).symm, rfl⟩
      · rw [if_neg a2]
        by_cases a3 : o.a < 0 ∨ (gt o.name d.now).length < o.a
        · rw [if_pos a3, if_neg (fun hx => hx.2.2.1 a3)]
          exact ⟨rfl, rfl, (List.append_nil _).symm, rfl⟩
        · rw [if_neg a3]
          by_cases a4 : o.a = (gt o.name d.now).length
          · rw [if_pos a4, if_neg (fun hx => hx.2.2.2 a4)]
            refine ⟨rfl, rfl, (List.append_nil _).symm, ?_⟩
            rw [decide_eq_false (p := o.a < _) (by omega)]; rfl
          · rw [if_neg a4, if_pos ⟨a1, a2, a3, a4⟩]
            refine ⟨rfl, rfl, rfl, ?_⟩
            have : o.a < (gt o.name d.now).length := by
              have h5 : ¬ ((gt o.name d.now).length : Int) < o.a := fun hx => a3 (.inr hx)
              omega
            rw [decide_eq_true (p := o.a < _) this]; rfl
    · rw [if_neg a1, if_neg (fun hx => a1 hx.1)]
      exact ⟨rfl, rfl, (List.append_nil _).symm, rfl⟩
  simp only [if_neg h3]
  by_cases h4 : o.kind = 4
  · simp only [if_pos h4]
    rw [renameP_Q h]
    by_cases a1 : okN o.name = true ∧ okN o.to = true
    · rw [if_pos a1]
      by_cases a2 : getK o.name d.now = none
      · rw [if_pos a2, if_neg (fun hx => hx.2.1 a2)]
        exact ⟨rfl, rfl, (List.append_nil _).symm, rfl⟩
      · rw [if_neg a2]
        by_cases a3 : o.name = o.to
        · rw [if_pos a3, if_neg (fun hx => hx.2.2 a3)]
          refine ⟨rfl, rfl, (List.append_nil _).symm, ?_⟩
          rw [decide_eq_false (p := o.name ≠ o.to) (fun hx => hx a3)]; rfl
        · rw [if_neg a3, if_pos ⟨a1, a2, a3⟩]
          refine ⟨rfl, rfl, rfl, ?_⟩
          rw [decide_eq_true (p := o.name ≠ o.to) a3]; rfl
    · rw [if_neg a1, if_neg (fun hx => a1 hx.1)]
      exact ⟨rfl, rfl, (List.append_nil _).symm, rfl⟩
  simp only [if_neg h4]
  by_cases h5 : o.kind = 5
  · simp only [if_pos h5]
    rw [deleteP_Q h]
    by_cases a1 : okN o.name = true
    · rw [if_pos a1]
      by_cases a2 : getK o.name d.now = none
      · rw [if_pos a2, if_neg (fun hx => hx.2 a2)]
        exact ⟨rfl, rfl, (List.append_nil _).symm, rfl⟩
      · rw [if_neg a2, if_pos ⟨a1, a2⟩]
        exact ⟨rfl, rfl, rfl, rfl⟩
    · rw [if_neg a1, if_neg (fun hx => a1 hx.1)]
      exact ⟨rfl, rfl, (List.append_nil _).symm, rfl⟩
  · simp [h5]
def chs (room : Int) : List OpM → Fm → List Chg
  | [], _ => []
  | o :: l, m => (chgOf room m o).toList ++ chs room l (apps (chgOf room m o).toList m)
theorem chs_append (room : Int) : ∀ (a b : List OpM) (m : Fm), chs room (a ++ b) m = chs room a m ++ chs room b (apps (chs room a m) m)
  | [], _, _ => rfl
  | o :: a, b, m => by
    simp only [List.cons_append, chs, chs_append room a b, apps_append, List.append_assoc]
theorem opsP_chg : ∀ (l : List OpM) {d : Dd}, d.Q → (opsP d l).dur = d.dur ∧ (opsP d l).room = d.room ∧ (opsP d l).pend = d.pend ++ chs d.room l d.now
  | [], d, _ => ⟨rfl, rfl, (List.append_nil _).symm⟩
  | o :: l, d, h => by
    obtain ⟨e1, e2, e3, _⟩ := op1_chg h o
    obtain ⟨g1, g2, g3⟩ := opsP_chg l (op1_q h o)
    refine ⟨g1.trans e1, g2.trans e2, g3.trans ?_⟩
    have hn : (op1 d o).now = apps (chgOf d.room d.now o).toList d.now := by
      unfold Dd.now
      rw [e1, e3, apps_append]; rfl
    rw [e2, e3, hn, chs, List.append_assoc]
theorem chs_succ {room : Int} {l : List OpM} {i : Nat} {o : OpM} (h : l[i]? = some o) (m : Fm) : chs room (l.take (i + 1)) m = chs room (l.take i) m ++ (chgOf room (apps (chs room (l.take i) m) m) o).toList := by
  rw [List.take_add_one, h, chs_append]
  simp [chs]
theorem chs_split {room : Int} {l : List OpM} {i : Nat} (m : Fm) : ∃ rest, chs room l m = chs room (l.take i) m ++ rest := by
  conv => arg 1; ext; lhs; rw [← List.take_append_drop i l, chs_append]
  exact ⟨_, rfl⟩
theorem putK_same {k v : Txt} {m : Fm} (hs : Srt m) (h : getK k m = some v) : putK k v m = m := by
  refine srt_ext (srt_put hs) hs fun j => ?_
  rw [get_put hs]
  split
  · rename_i hj; rw [hj, h]
  · rfl
/-- a part of an append -/
theorem append_part {d : Dd} (h : d.Q) {s b : Txt} {t : Nat} (h1 : okN s = true) (h2 : ¬ d.room - tot d.now < b.length) : (d.appendP s (b.take t)).1.now = (Chg.puts s (b.take t)).app d.now := by
  rw [appendP_Q h, if_pos h1, if_neg (by rw [List.length_take]; omega)]
  split
  · rename_i hx
    show d.now = putK s (gt s d.now ++ b.take t) d.now
    rw [hx.1, List.append_nil, putK_same h.v.now.srt (getK_some (by intro hn; rw [hn] at hx; cases hx.2))]
  · rw [does_now]; rfl
/-- what a crash leaves -/
theorem crash_now {d : Dd} (h : d.Q) (keep torn : Int) : (d.crash keep torn).now = tornM d.pend[keepN keep d.pend.length]? torn (apps (d.pend.take (keepN keep d.pend.length)) d.dur) := by
  unfold Dd.crash
  rw [if_neg (by rw [h.up]; simp)]
  rfl
/-- what just so many calls leave, and the next one -/
def NextRel (some_ : Dd) (keep torn : Int) (dj : Dd) (nxt : OpM) : Prop :=
  (some_.crash keep torn).now = if nxt.kind = 2 ∧ 0 ≤ torn ∧ torn < nxt.bytes.length then (Chg.puts nxt.name (nxt.bytes.take torn.toNat)).app dj.now else dj.now
theorem next_none {ds dj : Dd} {keep torn : Int} {nxt : OpM} (q : ds.Q) (hd : dj.dur = ds.dur) (hp : dj.pend = ds.pend) (hk : (ds.pend.length : Int) ≤ keep) (hn : nxt.kind ≠ 2) : NextRel ds keep torn dj nxt := by
  unfold NextRel
  rw [if_neg (fun hx => hn hx.1), crash_now q]
  have e : keepN keep ds.pend.length = ds.pend.length := by unfold keepN; omega
  rw [e, List.take_length, List.getElem?_eq_none (Nat.le_refl _)]
  show apps ds.pend ds.dur = apps dj.pend dj.dur
  rw [hd, hp]
theorem next_some {ds dj : Dd} {keep torn : Int} {o : OpM} {c : Chg} {rest : List Chg} (q : ds.Q) (hd : dj.dur = ds.dur) (hp : ds.pend = dj.pend ++ c :: rest) (hk : (dj.pend.length : Int) = keep) (hc : chgOf dj.room dj.now o = some c) : NextRel ds keep torn dj o := by
  unfold NextRel
  rw [crash_now q]
  have e : keepN keep ds.pend.length = dj.pend.length := by
    have := congrArg List.length hp
    rw [List.length_append, List.length_cons] at this
    unfold keepN; omega
  have e2 : ds.pend.take dj.pend.length = dj.pend := by rw [hp, List.take_left]
  have e3 : ds.pend[dj.pend.length]? = some c := by rw [hp, List.getElem?_append_right (Nat.le_refl _)]; simp
  rw [e, e2, e3, ← hd]
  show tornM (some c) torn dj.now = _
  unfold chgOf at hc
  by_cases h2 : o.kind = 2
  · rw [if_pos h2] at hc
    split at hc
    · cases hc
      unfold tornM
      by_cases ht : 0 ≤ torn ∧ torn < o.bytes.length
      · rw [if_pos ⟨h2, ht⟩]; simp only; rw [if_pos ht]
      · rw [if_neg (fun hx => ht hx.2)]; simp only; rw [if_neg ht]
    · cases hc
  · rw [if_neg h2] at hc
    rw [if_neg (fun hx => h2 hx.1)]
    split at hc
    · split at hc
      · cases hc; rfl
      · cases hc
    · split at hc
      · split at hc
        · cases hc; rfl
        · cases hc
      · split at hc
        · split at hc
          · cases hc; rfl
          · cases hc
        · cases hc
theorem chg_puts {room : Int} {m : Fm} {o : OpM} {c : Chg} (hc : chgOf room m o = some c) (h2 : o.kind = 2) : okN o.name = true ∧ ¬ room - tot m < o.bytes.length := by
  unfold chgOf at hc
  rw [if_pos h2] at hc
  split at hc
  · rename_i h
    exact ⟨h.1, h.2.1⟩
  · cases hc
end Go.Ez
namespace Go.Proofs.Ytdoopdbfajgnjaa
open Go Go.Ez Go.RowKit
set_option linter.unusedSimpArgs false
set_option linter.unusedVariables false
section
variable {Wz : World} {RR : Value → World → Prop}
def opN : OpM := ⟨-1, 0, 0, [], [], (none, 0, 0), [], (none, 0, 0), []⟩
/-- DiskPrefix -/
theorem prefix_spec {oa ob : List OpM} {va vb : Value} {keep torn : Int} (ha : Sl Wz 7 va oa.length (rcells opC oa)) (hfa : ∀ o ∈ oa, OpF Wz o) (hb : Sl Wz 7 vb ob.length (rcells opC ob)) (hfb : ∀ o ∈ ob, OpF Wz o)
    (k : ∀ W', Below Wz.heap.size Wz W' → RR (.bool true) W') : CallF Try.prog 5 #[va, vb, .int .i64 keep, .int .i64 torn] Wz RR := by
  refine sh5_calls ?_
  unfold sh5
  have out : ∀ {W1 : World}, Below Wz.heap.size Wz W1 → CallF Try.prog 8 #[] W1 RR := fun hb1 => first_spec fun W2 hb2 => k W2 (Below.next hb1 hb2)
  refine first_spec fun W1 hb1 => ?_
  (repeat (first | (with_reducible refine ift ?_) | (with_reducible refine iff' ?_) | (with_reducible refine a_lss ?_) | (with_reducible refine a_leq ?_) | (with_reducible refine a_gtr ?_) | (with_reducible refine a_geq ?_) | (with_reducible refine w_eql ?_) | (with_reducible refine w_neq ?_) | (with_reducible refine s_eql ?_) | (with_reducible refine s_neq ?_) | ((with_reducible refine a_add64 ?h0 ?h1 ?_); (case h0 => omega); (case h1 => omega);  skip) | ((with_reducible refine a_sub64 ?h0 ?h1 ?_); (case h0 => omega); (case h1 => omega);  skip) | ((with_reducible refine a_mul64 ?h0 ?h1 ?_); (case h0 => omega); (case h1 => omega);  skip) | (with_reducible refine a_notd ?_) | (with_reducible refine a_not ?_) | (with_reducible refine a_ext0 ?_) | (with_reducible refine a_ext1 ?_) | (with_reducible refine a_ext2 ?_) | (with_reducible refine x_len ?_) | (with_reducible refine x_lens ?_) | (with_reducible refine x_eqb ?_) | (with_reducible refine x_neb ?_) | (with_reducible refine x_nilP ?_) | (with_reducible refine x_nilPn ?_) | (with_reducible refine x_nilF ?_) | (with_reducible refine x_nilFF ?_) | (with_reducible refine w_eqlL ?_) | (with_reducible refine w_neqL ?_) | (with_reducible refine s_eqlL ?_) | (with_reducible refine ifnt ?_) | (with_reducible refine ifnf ?_) | (with_reducible refine x_eqB ?_) | (with_reducible refine x_neB ?_) | (with_reducible refine x_lssL ?_) | (with_reducible refine x_gtrL ?_) | (with_reducible refine x_geqL ?_) | (with_reducible refine s_neqL ?_) | (with_reducible refine St.load h ?_) | (with_reducible refine St.loadS h ?_) | (with_reducible refine a_fld0 ?_) | (with_reducible refine St.store h fun W h => ?_) | (with_reducible refine St.storeS h fun W h => ?_) | (with_reducible refine St.alloc h fun b W h => ?_) | (with_reducible refine St.allocS h fun b W h => ?_) | (with_reducible refine a_nil ?_) | (with_reducible refine ss_load ?_) | (with_reducible refine ss_loadS ?_) | (with_reducible refine ss_eqb ?_)))
  refine few_spec (ha.below hb1) (fun o ho => (hfa o ho).below hb1) fun b0 hs1 => ?_
  refine a_not (ifnb (fun hx => out hb1) fun hx => ?_)
  obtain ⟨hla, hsa⟩ := hs1 hx
  refine few_spec (hb.below hb1) (fun o ho => (hfb o ho).below hb1) fun b1 hs2 => ?_
  refine a_not (ifnb (fun hx => out hb1) fun hx => ?_)
  obtain ⟨hlb, hsb⟩ := hs2 hx
  refine x_lenS (ha.below hb1) (a_gtr (ifd (fun hx => out hb1) fun hx => ?_))
  refine x_lenS (hb.below hb1) (a_gtr (ifd (fun hx => out hb1) fun hx => ?_))
  refine a_lss (ifd (fun hx => out hb1) fun hkeep => ?_)
  have h := ((St.start Wz).ext hb1).plNil .a
  refine newd_spec [] h (fun hx => absurd ⟨by decide, by decide⟩ hx) fun h0 h1 bd W2 h => ?_
  refine a_ext0 (a_ext1 ?_)
  (repeat (first | (with_reducible refine ift ?_) | (with_reducible refine iff' ?_) | (with_reducible refine a_lss ?_) | (with_reducible refine a_leq ?_) | (with_reducible refine a_gtr ?_) | (with_reducible refine a_geq ?_) | (with_reducible refine w_eql ?_) | (with_reducible refine w_neq ?_) | (with_reducible refine s_eql ?_) | (with_reducible refine s_neq ?_) | ((with_reducible refine a_add64 ?h0 ?h1 ?_); (case h0 => omega); (case h1 => omega);  skip) | ((with_reducible refine a_sub64 ?h0 ?h1 ?_); (case h0 => omega); (case h1 => omega);  skip) | ((with_reducible refine a_mul64 ?h0 ?h1 ?_); (case h0 => omega); (case h1 => omega);  skip) | (with_reducible refine a_notd ?_) | (with_reducible refine a_not ?_) | (with_reducible refine a_ext0 ?_) | (with_reducible refine a_ext1 ?_) | (with_reducible refine a_ext2 ?_) | (with_reducible refine x_len ?_) | (with_reducible refine x_lens ?_) | (with_reducible refine x_eqb ?_) | (with_reducible refine x_neb ?_) | (with_reducible refine x_nilP ?_) | (with_reducible refine x_nilPn ?_) | (with_reducible refine x_nilF ?_) | (with_reducible refine x_nilFF ?_) | (with_reducible refine w_eqlL ?_) | (with_reducible refine w_neqL ?_) | (with_reducible refine s_eqlL ?_) | (with_reducible refine ifnt ?_) | (with_reducible refine ifnf ?_) | (with_reducible refine x_eqB ?_) | (with_reducible refine x_neB ?_) | (with_reducible refine x_lssL ?_) | (with_reducible refine x_gtrL ?_) | (with_reducible refine x_geqL ?_) | (with_reducible refine s_neqL ?_) | (with_reducible refine St.load h ?_) | (with_reducible refine St.loadS h ?_) | (with_reducible refine a_fld0 ?_) | (with_reducible refine St.store h fun W h => ?_) | (with_reducible refine St.storeS h fun W h => ?_) | (with_reducible refine St.alloc h fun b W h => ?_) | (with_reducible refine St.allocS h fun b W h => ?_) | (with_reducible refine a_nil ?_) | (with_reducible refine ss_load ?_) | (with_reducible refine ss_loadS ?_) | (with_reducible refine ss_eqb ?_)))
  refine iff' ?_
  (repeat (first | (with_reducible refine ift ?_) | (with_reducible refine iff' ?_) | (with_reducible refine a_lss ?_) | (with_reducible refine a_leq ?_) | (with_reducible refine a_gtr ?_) | (with_reducible refine a_geq ?_) | (with_reducible refine w_eql ?_) | (with_reducible refine w_neq ?_) | (with_reducible refine s_eql ?_) | (with_reducible refine s_neq ?_) | ((with_reducible refine a_add64 ?h0 ?h1 ?_); (case h0 => omega); (case h1 => omega);  skip) | ((with_reducible refine a_sub64 ?h0 ?h1 ?_); (case h0 => omega); (case h1 => omega);  skip) | ((with_reducible refine a_mul64 ?h0 ?h1 ?_); (case h0 => omega); (case h1 => omega);  skip) | (with_reducible refine a_notd ?_) | (with_reducible refine a_not ?_) | (with_reducible refine a_ext0 ?_) | (with_reducible refine a_ext1 ?_) | (with_reducible refine a_ext2 ?_) | (with_reducible refine x_len ?_) | (with_reducible refine x_lens ?_) | (with_reducible refine x_eqb ?_) | (with_reducible refine x_neb ?_) | (with_reducible refine x_nilP ?_) | (with_reducible refine x_nilPn ?_) | (with_reducible refine x_nilF ?_) | (with_reducible refine x_nilFF ?_) | (with_reducible refine w_eqlL ?_) | (with_reducible refine w_neqL ?_) | (with_reducible refine s_eqlL ?_) | (with_reducible refine ifnt ?_) | (with_reducible refine ifnf ?_) | (with_reducible refine x_eqB ?_) | (with_reducible refine x_neB ?_) | (with_reducible refine x_lssL ?_) | (with_reducible refine x_gtrL ?_) | (with_reducible refine x_geqL ?_) | (with_reducible refine s_neqL ?_) | (with_reducible refine St.load h ?_) | (with_reducible refine St.loadS h ?_) | (with_reducible refine a_fld0 ?_) | (with_reducible refine St.store h fun W h => ?_) | (with_reducible refine St.storeS h fun W h => ?_) | (with_reducible refine St.alloc h fun b W h => ?_) | (with_reducible refine St.allocS h fun b W h => ?_) | (with_reducible refine a_nil ?_) | (with_reducible refine ss_load ?_) | (with_reducible refine ss_loadS ?_) | (with_reducible refine ss_eqb ?_)))
  refine ifd_neg (by decide) ?_
  have q0 := newD_Q h0 h1
  have c0 : (newD 1048576).calls = 0 := rfl
  generalize newD 1048576 = d0 at *
  refine ldoes_spec (v := (.pointer (some ⟨bd, 0, none⟩) : Value)) h ha hfa hsa (by omega) fun zs1 W _ h => ?_
  have q1 := opsP_q oa q0
  have c1 := opsP_calls oa d0
  generalize opsP d0 oa = d1 at *
  refine sync_spec (v := (.pointer (some ⟨bd, 0, none⟩) : Value)) h (by omega) fun zs2 W _ h => ?_
  have q2 := syncP_q q1
  have c2 := syncP_calls d1
  have p2 : d1.syncP.1.pend = [] := by rw [syncP_Q q1]
  generalize d1.syncP.1 = D at *
  refine copy_spec (v := (.pointer (some ⟨bd, 0, none⟩) : Value)) h (by omega) fun ba W h => ?_
  refine copy_spec (v := (.pointer (some ⟨bd, 0, none⟩) : Value)) h (by omega) fun bs W h => ?_
  refine copy_spec (v := (.pointer (some ⟨bd, 0, none⟩) : Value)) h (by omega) fun bj W h => ?_
  (repeat (first | (with_reducible refine ift ?_) | (with_reducible refine iff' ?_) | (with_reducible refine a_lss ?_) | (with_reducible refine a_leq ?_) | (with_reducible refine a_gtr ?_) | (with_reducible refine a_geq ?_) | (with_reducible refine w_eql ?_) | (with_reducible refine w_neq ?_) | (with_reducible refine s_eql ?_) | (with_reducible refine s_neq ?_) | ((with_reducible refine a_add64 ?h0 ?h1 ?_); (case h0 => omega); (case h1 => omega);  skip) | ((with_reducible refine a_sub64 ?h0 ?h1 ?_); (case h0 => omega); (case h1 => omega);  skip) | ((with_reducible refine a_mul64 ?h0 ?h1 ?_); (case h0 => omega); (case h1 => omega);  skip) | (with_reducible refine a_notd ?_) | (with_reducible refine a_not ?_) | (with_reducible refine a_ext0 ?_) | (with_reducible refine a_ext1 ?_) | (with_reducible refine a_ext2 ?_) | (with_reducible refine x_len ?_) | (with_reducible refine x_lens ?_) | (with_reducible refine x_eqb ?_) | (with_reducible refine x_neb ?_) | (with_reducible refine x_nilP ?_) | (with_reducible refine x_nilPn ?_) | (with_reducible refine x_nilF ?_) | (with_reducible refine x_nilFF ?_) | (with_reducible refine w_eqlL ?_) | (with_reducible refine w_neqL ?_) | (with_reducible refine s_eqlL ?_) | (with_reducible refine ifnt ?_) | (with_reducible refine ifnf ?_) | (with_reducible refine x_eqB ?_) | (with_reducible refine x_neB ?_) | (with_reducible refine x_lssL ?_) | (with_reducible refine x_gtrL ?_) | (with_reducible refine x_geqL ?_) | (with_reducible refine s_neqL ?_) | (with_reducible refine St.load h ?_) | (with_reducible refine St.loadS h ?_) | (with_reducible refine a_fld0 ?_) | (with_reducible refine St.store h fun W h => ?_) | (with_reducible refine St.storeS h fun W h => ?_) | (with_reducible refine St.alloc h fun b W h => ?_) | (with_reducible refine St.allocS h fun b W h => ?_) | (with_reducible refine a_nil ?_) | (with_reducible refine ss_load ?_) | (with_reducible refine ss_loadS ?_) | (with_reducible refine ss_eqb ?_)))
  refine iff' ?_
  (repeat (first | (with_reducible refine ift ?_) | (with_reducible refine iff' ?_) | (with_reducible refine a_lss ?_) | (with_reducible refine a_leq ?_) | (with_reducible refine a_gtr ?_) | (with_reducible refine a_geq ?_) | (with_reducible refine w_eql ?_) | (with_reducible refine w_neq ?_) | (with_reducible refine s_eql ?_) | (with_reducible refine s_neq ?_) | ((with_reducible refine a_add64 ?h0 ?h1 ?_); (case h0 => omega); (case h1 => omega);  skip) | ((with_reducible refine a_sub64 ?h0 ?h1 ?_); (case h0 => omega); (case h1 => omega);  skip) | ((with_reducible refine a_mul64 ?h0 ?h1 ?_); (case h0 => omega); (case h1 => omega);  skip) | (with_reducible refine a_notd ?_) | (with_reducible refine a_not ?_) | (with_reducible refine a_ext0 ?_) | (with_reducible refine a_ext1 ?_) | (with_reducible refine a_ext2 ?_) | (with_reducible refine x_len ?_) | (with_reducible refine x_lens ?_) | (with_reducible refine x_eqb ?_) | (with_reducible refine x_neb ?_) | (with_reducible refine x_nilP ?_) | (with_reducible refine x_nilPn ?_) | (with_reducible refine x_nilF ?_) | (with_reducible refine x_nilFF ?_) | (with_reducible refine w_eqlL ?_) | (with_reducible refine w_neqL ?_) | (with_reducible refine s_eqlL ?_) | (with_reducible refine ifnt ?_) | (with_reducible refine ifnf ?_) | (with_reducible refine x_eqB ?_) | (with_reducible refine x_neB ?_) | (with_reducible refine x_lssL ?_) | (with_reducible refine x_gtrL ?_) | (with_reducible refine x_geqL ?_) | (with_reducible refine s_neqL ?_) | (with_reducible refine St.load h ?_) | (with_reducible refine St.loadS h ?_) | (with_reducible refine a_fld0 ?_) | (with_reducible refine St.store h fun W h => ?_) | (with_reducible refine St.storeS h fun W h => ?_) | (with_reducible refine St.alloc h fun b W h => ?_) | (with_reducible refine St.allocS h fun b W h => ?_) | (with_reducible refine a_nil ?_) | (with_reducible refine ss_load ?_) | (with_reducible refine ss_loadS ?_) | (with_reducible refine ss_eqb ?_)))
  refine iff' ?_
  (repeat (first | (with_reducible refine ift ?_) | (with_reducible refine iff' ?_) | (with_reducible refine a_lss ?_) | (with_reducible refine a_leq ?_) | (with_reducible refine a_gtr ?_) | (with_reducible refine a_geq ?_) | (with_reducible refine w_eql ?_) | (with_reducible refine w_neq ?_) | (with_reducible refine s_eql ?_) | (with_reducible refine s_neq ?_) | ((with_reducible refine a_add64 ?h0 ?h1 ?_); (case h0 => omega); (case h1 => omega);  skip) | ((with_reducible refine a_sub64 ?h0 ?h1 ?_); (case h0 => omega); (case h1 => omega);  skip) | ((with_reducible refine a_mul64 ?h0 ?h1 ?_); (case h0 => omega); (case h1 => omega);  skip) | (with_reducible refine a_notd ?_) | (with_reducible refine a_not ?_) | (with_reducible refine a_ext0 ?_) | (with_reducible refine a_ext1 ?_) | (with_reducible refine a_ext2 ?_) | (with_reducible refine x_len ?_) | (with_reducible refine x_lens ?_) | (with_reducible refine x_eqb ?_) | (with_reducible refine x_neb ?_) | (with_reducible refine x_nilP ?_) | (with_reducible refine x_nilPn ?_) | (with_reducible refine x_nilF ?_) | (with_reducible refine x_nilFF ?_) | (with_reducible refine w_eqlL ?_) | (with_reducible refine w_neqL ?_) | (with_reducible refine s_eqlL ?_) | (with_reducible refine ifnt ?_) | (with_reducible refine ifnf ?_) | (with_reducible refine x_eqB ?_) | (with_reducible refine x_neB ?_) | (with_reducible refine x_lssL ?_) | (with_reducible refine x_gtrL ?_) | (with_reducible refine x_geqL ?_) | (with_reducible refine s_neqL ?_) | (with_reducible refine St.load h ?_) | (with_reducible refine St.loadS h ?_) | (with_reducible refine a_fld0 ?_) | (with_reducible refine St.store h fun W h => ?_) | (with_reducible refine St.storeS h fun W h => ?_) | (with_reducible refine St.alloc h fun b W h => ?_) | (with_reducible refine St.allocS h fun b W h => ?_) | (with_reducible refine a_nil ?_) | (with_reducible refine ss_load ?_) | (with_reducible refine ss_loadS ?_) | (with_reducible refine ss_eqb ?_)))
  refine iff' ?_
  have h := (show St Wz G0 (Ky (.pointer (some ⟨ba, 0, none⟩) : Value) (Dk zs2 D) :: Ky (.pointer (some ⟨bs, 0, none⟩) : Value) (Dk zs2 D) :: Ky (.pointer (some ⟨bj, 0, none⟩) : Value) (Dk zs2 D) :: Ky PoolK.a (Pl zs2) :: []) W from h.to)
  refine ldoes_spec (v := (.pointer (some ⟨ba, 0, none⟩) : Value)) h hb hfb hsb (by omega) fun zs3 W hz3 h => ?_
  replace h := upD (v := (.pointer (some ⟨bs, 0, none⟩) : Value)) h hz3
  replace h := upD (v := (.pointer (some ⟨bj, 0, none⟩) : Value)) h hz3
  have cb := opsP_calls ob D
  refine copy_spec (v := (.pointer (some ⟨ba, 0, none⟩) : Value)) h (by omega) fun bw W h => ?_
  refine ldoes_spec (v := (.pointer (some ⟨bs, 0, none⟩) : Value)) h hb hfb hsb (by omega) fun zs4 W hz4 h => ?_
  replace h := upD (v := (.pointer (some ⟨ba, 0, none⟩) : Value)) h hz4
  replace h := upD (v := (.pointer (some ⟨bw, 0, none⟩) : Value)) h hz4
  replace h := upD (v := (.pointer (some ⟨bj, 0, none⟩) : Value)) h hz4
  have qb := opsP_q ob q2
  obtain ⟨b1, b2, b3⟩ := opsP_chg ob q2
  rw [p2, List.nil_append] at b3
  generalize hDb : opsP D ob = Db at *
  refine x_bld (cells := (opC opN).toArray) rfl ?_
  refine h.allocS fun bn W h => ?_
  refine h.storeS (cs' := opC opN) fun W h => ?_
  have h5 : St Wz G0 (Ky bn (Ob (.cells (opC opN).toArray 32 (0, 0))) :: Ky (.pointer (some ⟨bj, 0, none⟩) : Value) (Dk zs4 D) :: Ky (.pointer (some ⟨ba, 0, none⟩) : Value) (Dk zs4 Db) :: Ky (.pointer (some ⟨bw, 0, none⟩) : Value) (Dk zs4 Db) :: Ky (.pointer (some ⟨bs, 0, none⟩) : Value) (Dk zs4 Db) :: Ky PoolK.a (Pl zs4) :: []) W := h.to
  clear h
  have h := h5
  clear h5
  have hblen := qb.v.len
  refine jni (fun vs W' => vs = [.int .i64 keep, .int .i64 torn, .pointer (some ⟨ba, 0, none⟩), .pointer (some ⟨bs, 0, none⟩), .pointer (some ⟨bj, 0, none⟩), .pointer (some ⟨bw, 0, none⟩), .pointer (some ⟨bn, 0, none⟩)] ∧ ∃ zs dj nxt, dj.Q ∧ dj.calls ≤ 500 ∧ NextRel Db keep torn dj nxt ∧ (nxt.kind = 2 → OpF Wz nxt ∧ OpS nxt ∧ okN nxt.name = true ∧ ¬ dj.room - tot dj.now < nxt.bytes.length) ∧
      St Wz G0 (Ky bn (Ob (.cells (opC nxt).toArray 32 (0, 0))) :: Ky (.pointer (some ⟨bj, 0, none⟩) : Value) (Dk zs dj) :: Ky (.pointer (some ⟨ba, 0, none⟩) : Value) (Dk zs Db) :: Ky (.pointer (some ⟨bw, 0, none⟩) : Value) (Dk zs Db) :: Ky (.pointer (some ⟨bs, 0, none⟩) : Value) (Dk zs Db) :: Ky PoolK.a (Pl zs) :: []) W') ?_ ?_
  · clear h
    rintro vs W3 _ ⟨rfl, zs, dj, nxt, qj, cj, hrel, hnx, h⟩
    refine app7 ?_
    obtain ⟨ev1, oe1, h⟩ := openD (v := (.pointer (some ⟨ba, 0, none⟩) : Value)) h
    refine crash_spec (v := (.pointer (some ⟨ba, 0, none⟩) : Value)) (keep := 1048576) (torn := -1) h fun zs5 W hz5 h => ?_
    replace h := shutD (v := (.pointer (some ⟨ba, 0, none⟩) : Value)) h
    replace h := upD (v := (.pointer (some ⟨bj, 0, none⟩) : Value)) h hz5
    replace h := upD (v := (.pointer (some ⟨bw, 0, none⟩) : Value)) h hz5
    replace h := upD (v := (.pointer (some ⟨bs, 0, none⟩) : Value)) h hz5
    obtain ⟨ev2, oe2, h⟩ := openD (v := (.pointer (some ⟨bs, 0, none⟩) : Value)) h
    refine crash_spec (v := (.pointer (some ⟨bs, 0, none⟩) : Value)) (keep := keep) (torn := torn) h fun zs6 W hz6 h => ?_
    replace h := shutD (v := (.pointer (some ⟨bs, 0, none⟩) : Value)) h
    replace h := upD (v := (.pointer (some ⟨bj, 0, none⟩) : Value)) h hz6
    replace h := upD (v := (.pointer (some ⟨bw, 0, none⟩) : Value)) h hz6
    replace h := upD (v := (.pointer (some ⟨ba, 0, none⟩) : Value)) h hz6
    have cc1 := (crash_calls Db 1048576 (-1)).1
    have cc2 := (crash_calls Db keep torn).1
    have hca := crash_all (d := Db) (torn := -1) (by omega)
    (repeat (first | (with_reducible refine ift ?_) | (with_reducible refine iff' ?_) | (with_reducible refine a_lss ?_) | (with_reducible refine a_leq ?_) | (with_reducible refine a_gtr ?_) | (with_reducible refine a_geq ?_) | (with_reducible refine w_eql ?_) | (with_reducible refine w_neq ?_) | (with_reducible refine s_eql ?_) | (with_reducible refine s_neq ?_) | ((with_reducible refine a_add64 ?h0 ?h1 ?_); (case h0 => omega); (case h1 => omega);  skip) | ((with_reducible refine a_sub64 ?h0 ?h1 ?_); (case h0 => omega); (case h1 => omega);  skip) | ((with_reducible refine a_mul64 ?h0 ?h1 ?_); (case h0 => omega); (case h1 => omega);  skip) | (with_reducible refine a_notd ?_) | (with_reducible refine a_not ?_) | (with_reducible refine a_ext0 ?_) | (with_reducible refine a_ext1 ?_) | (with_reducible refine a_ext2 ?_) | (with_reducible refine x_len ?_) | (with_reducible refine x_lens ?_) | (with_reducible refine x_eqb ?_) | (with_reducible refine x_neb ?_) | (with_reducible refine x_nilP ?_) | (with_reducible refine x_nilPn ?_) | (with_reducible refine x_nilF ?_) | (with_reducible refine x_nilFF ?_) | (with_reducible refine w_eqlL ?_) | (with_reducible refine w_neqL ?_) | (with_reducible refine s_eqlL ?_) | (with_reducible refine ifnt ?_) | (with_reducible refine ifnf ?_) | (with_reducible refine x_eqB ?_) | (with_reducible refine x_neB ?_) | (with_reducible refine x_lssL ?_) | (with_reducible refine x_gtrL ?_) | (with_reducible refine x_geqL ?_) | (with_reducible refine s_neqL ?_) | (with_reducible refine St.load h ?_) | (with_reducible refine St.loadS h ?_) | (with_reducible refine a_fld0 ?_) | (with_reducible refine St.store h fun W h => ?_) | (with_reducible refine St.storeS h fun W h => ?_) | (with_reducible refine St.alloc h fun b W h => ?_) | (with_reducible refine St.allocS h fun b W h => ?_) | (with_reducible refine a_nil ?_) | (with_reducible refine ss_load ?_) | (with_reducible refine ss_loadS ?_) | (with_reducible refine ss_eqb ?_)))
    refine iff' ?_
    refine alike_spec (freezeD (v := (.pointer (some ⟨ba, 0, none⟩) : Value)) h) (freezeD (v := (.pointer (some ⟨bw, 0, none⟩) : Value)) h) (by omega) (by omega) fun W hb5 => ?_
    replace h := h.ext hb5
    rw [decide_eq_true hca]
    (repeat (first | (with_reducible refine ift ?_) | (with_reducible refine iff' ?_) | (with_reducible refine a_lss ?_) | (with_reducible refine a_leq ?_) | (with_reducible refine a_gtr ?_) | (with_reducible refine a_geq ?_) | (with_reducible refine w_eql ?_) | (with_reducible refine w_neq ?_) | (with_reducible refine s_eql ?_) | (with_reducible refine s_neq ?_) | ((with_reducible refine a_add64 ?h0 ?h1 ?_); (case h0 => omega); (case h1 => omega);  skip) | ((with_reducible refine a_sub64 ?h0 ?h1 ?_); (case h0 => omega); (case h1 => omega);  skip) | ((with_reducible refine a_mul64 ?h0 ?h1 ?_); (case h0 => omega); (case h1 => omega);  skip) | (with_reducible refine a_notd ?_) | (with_reducible refine a_not ?_) | (with_reducible refine a_ext0 ?_) | (with_reducible refine a_ext1 ?_) | (with_reducible refine a_ext2 ?_) | (with_reducible refine x_len ?_) | (with_reducible refine x_lens ?_) | (with_reducible refine x_eqb ?_) | (with_reducible refine x_neb ?_) | (with_reducible refine x_nilP ?_) | (with_reducible refine x_nilPn ?_) | (with_reducible refine x_nilF ?_) | (with_reducible refine x_nilFF ?_) | (with_reducible refine w_eqlL ?_) | (with_reducible refine w_neqL ?_) | (with_reducible refine s_eqlL ?_) | (with_reducible refine ifnt ?_) | (with_reducible refine ifnf ?_) | (with_reducible refine x_eqB ?_) | (with_reducible refine x_neB ?_) | (with_reducible refine x_lssL ?_) | (with_reducible refine x_gtrL ?_) | (with_reducible refine x_geqL ?_) | (with_reducible refine s_neqL ?_) | (with_reducible refine St.load h ?_) | (with_reducible refine St.loadS h ?_) | (with_reducible refine a_fld0 ?_) | (with_reducible refine St.store h fun W h => ?_) | (with_reducible refine St.storeS h fun W h => ?_) | (with_reducible refine St.alloc h fun b W h => ?_) | (with_reducible refine St.allocS h fun b W h => ?_) | (with_reducible refine a_nil ?_) | (with_reducible refine ss_load ?_) | (with_reducible refine ss_loadS ?_) | (with_reducible refine ss_eqb ?_)))
    have hbox : St Wz G0 (Ky bn (Ob (.cells [.int .i64 nxt.kind, .int .i64 nxt.a, .int .i64 nxt.b, strV nxt.name, strV nxt.to, svV nxt.bv, svV nxt.ev].toArray 32 (0, 0))) :: _) W := h.find (k := bn) (X := Ob (.cells (opC nxt).toArray 32 (0, 0)))
    clear h
    have h := hbox
    clear hbox
    have same : ¬ (nxt.kind = 2 ∧ 0 ≤ torn ∧ torn < nxt.bytes.length) → ∀ {W' : World}, Below W.heap.size W W' → CallF Try.prog 8 #[] W' fun t w => IfB t (CallF Try.prog 17 #[.pointer (some ⟨bs, 0, none⟩), .pointer (some ⟨bj, 0, none⟩)] w fun t w => RR t w) (RR (.bool false) w) := fun hno W' hbW => by
      have h := h.ext hbW
      refine first_spec fun W hb5 => ?_
      replace h := h.ext hb5
      refine ift ?_
      refine alike_spec (freezeD (v := (.pointer (some ⟨bs, 0, none⟩) : Value)) h) (freezeD (v := (.pointer (some ⟨bj, 0, none⟩) : Value)) h) (by omega) (by omega) fun W hb5 => ?_
      replace h := h.ext hb5
      unfold NextRel at hrel
      rw [if_neg hno] at hrel
      rw [decide_eq_true hrel]
      exact k W h.low
    (repeat (first | (with_reducible refine ift ?_) | (with_reducible refine iff' ?_) | (with_reducible refine a_lss ?_) | (with_reducible refine a_leq ?_) | (with_reducible refine a_gtr ?_) | (with_reducible refine a_geq ?_) | (with_reducible refine w_eql ?_) | (with_reducible refine w_neq ?_) | (with_reducible refine s_eql ?_) | (with_reducible refine s_neq ?_) | ((with_reducible refine a_add64 ?h0 ?h1 ?_); (case h0 => omega); (case h1 => omega);  skip) | ((with_reducible refine a_sub64 ?h0 ?h1 ?_); (case h0 => omega); (case h1 => omega);  skip) | ((with_reducible refine a_mul64 ?h0 ?h1 ?_); (case h0 => omega); (case h1 => omega);  skip) | (with_reducible refine a_notd ?_) | (with_reducible refine a_not ?_) | (with_reducible refine a_ext0 ?_) | (with_reducible refine a_ext1 ?_) | (with_reducible refine a_ext2 ?_) | (with_reducible refine x_len ?_) | (with_reducible refine x_lens ?_) | (with_reducible refine x_eqb ?_) | (with_reducible refine x_neb ?_) | (with_reducible refine x_nilP ?_) | (with_reducible refine x_nilPn ?_) | (with_reducible refine x_nilF ?_) | (with_reducible refine x_nilFF ?_) | (with_reducible refine w_eqlL ?_) | (with_reducible refine w_neqL ?_) | (with_reducible refine s_eqlL ?_) | (with_reducible refine ifnt ?_) | (with_reducible refine ifnf ?_) | (with_reducible refine x_eqB ?_) | (with_reducible refine x_neB ?_) | (with_reducible refine x_lssL ?_) | (with_reducible refine x_gtrL ?_) | (with_reducible refine x_geqL ?_) | (with_reducible refine s_neqL ?_) | (with_reducible refine St.load h ?_) | (with_reducible refine St.loadS h ?_) | (with_reducible refine a_fld0 ?_) | (with_reducible refine St.store h fun W h => ?_) | (with_reducible refine St.storeS h fun W h => ?_) | (with_reducible refine St.alloc h fun b W h => ?_) | (with_reducible refine St.allocS h fun b W h => ?_) | (with_reducible refine a_nil ?_) | (with_reducible refine ss_load ?_) | (with_reducible refine ss_loadS ?_) | (with_reducible refine ss_eqb ?_)))
    refine ifd (fun hk2 => same (fun hx => hk2 hx.1) (Below.refl _ _)) fun hk2 => ?_
    have hk3 : nxt.kind = 2 := by simpa using hk2
    obtain ⟨hF, hS, hok, hfit⟩ := hnx hk3
    have n1 := hS.name
    have n3 := hS.bytes
    refine a_lss (ifd (fun ht => same (fun hx => by omega) (Below.refl _ _)) fun ht => ?_)
    (repeat (first | (with_reducible refine ift ?_) | (with_reducible refine iff' ?_) | (with_reducible refine a_lss ?_) | (with_reducible refine a_leq ?_) | (with_reducible refine a_gtr ?_) | (with_reducible refine a_geq ?_) | (with_reducible refine w_eql ?_) | (with_reducible refine w_neq ?_) | (with_reducible refine s_eql ?_) | (with_reducible refine s_neq ?_) | ((with_reducible refine a_add64 ?h0 ?h1 ?_); (case h0 => omega); (case h1 => omega);  skip) | ((with_reducible refine a_sub64 ?h0 ?h1 ?_); (case h0 => omega); (case h1 => omega);  skip) | ((with_reducible refine a_mul64 ?h0 ?h1 ?_); (case h0 => omega); (case h1 => omega);  skip) | (with_reducible refine a_notd ?_) | (with_reducible refine a_not ?_) | (with_reducible refine a_ext0 ?_) | (with_reducible refine a_ext1 ?_) | (with_reducible refine a_ext2 ?_) | (with_reducible refine x_len ?_) | (with_reducible refine x_lens ?_) | (with_reducible refine x_eqb ?_) | (with_reducible refine x_neb ?_) | (with_reducible refine x_nilP ?_) | (with_reducible refine x_nilPn ?_) | (with_reducible refine x_nilF ?_) | (with_reducible refine x_nilFF ?_) | (with_reducible refine w_eqlL ?_) | (with_reducible refine w_neqL ?_) | (with_reducible refine s_eqlL ?_) | (with_reducible refine ifnt ?_) | (with_reducible refine ifnf ?_) | (with_reducible refine x_eqB ?_) | (with_reducible refine x_neB ?_) | (with_reducible refine x_lssL ?_) | (with_reducible refine x_gtrL ?_) | (with_reducible refine x_geqL ?_) | (with_reducible refine s_neqL ?_) | (with_reducible refine St.load h ?_) | (with_reducible refine St.loadS h ?_) | (with_reducible refine a_fld0 ?_) | (with_reducible refine St.store h fun W h => ?_) | (with_reducible refine St.storeS h fun W h => ?_) | (with_reducible refine St.alloc h fun b W h => ?_) | (with_reducible refine St.allocS h fun b W h => ?_) | (with_reducible refine a_nil ?_) | (with_reducible refine ss_load ?_) | (with_reducible refine ss_loadS ?_) | (with_reducible refine ss_eqb ?_)))
    refine x_lenS hF.bytes ?_
    refine a_geq (ifd (fun ht2 => same (fun hx => by omega) (Below.refl _ _)) fun ht2 => ?_)
    replace h := h.drew
    refine ⟨fun w => Rec w bn 32 [.int .i64 nxt.kind, .int .i64 nxt.a, .int .i64 nxt.b, strV nxt.name, strV nxt.to, svV nxt.bv, svV nxt.ev], h.rc, ?_⟩
    refine a_fld0 (s_ld (fun w hw => hw) rfl (a_fld0 (s_ld (fun w hw => hw) rfl ?_)))
    refine a_sliceH elB hF.bytes (by omega) (by omega) fun v1 hv1 => ?_
    have hby1 := By.cutH (by omega) (by omega) hv1
    refine append_spec (v := (.pointer (some ⟨bj, 0, none⟩) : Value)) h (by omega) (by omega) (Arg.old hby1) (by rw [List.length_take]; omega) fun zs7 W hz7 h => ?_
    replace h := upD (v := (.pointer (some ⟨bs, 0, none⟩) : Value)) h hz7
    refine first_spec fun W hb5 => ?_
    replace h := h.ext hb5
    refine ift ?_
    have c7 := appendP_calls dj nxt.name (nxt.bytes.take torn.toNat)
    refine alike_spec (freezeD (v := (.pointer (some ⟨bs, 0, none⟩) : Value)) h) (freezeD (v := (.pointer (some ⟨bj, 0, none⟩) : Value)) h) (by omega) (by omega) fun W hb5 => ?_
    replace h := h.ext hb5
    unfold NextRel at hrel
    rw [if_pos ⟨hk3, by omega, by omega⟩] at hrel
    rw [decide_eq_true (hrel.trans (append_part qj hok hfit).symm)]
    exact k W h.low
  · refine lpx (α := Nat × Nat) (fun p => [nV .i64 p.2, nV .i64 p.1]) (fun p W' => p.1 ≤ ob.length ∧ ∃ zs dj, dj.Q ∧ dj.dur = D.dur ∧ dj.room = D.room ∧ dj.pend = chs D.room (ob.take p.1) D.now ∧ p.2 = dj.pend.length ∧ (p.2 : Int) ≤ keep ∧ dj.calls ≤ D.calls + p.1 ∧
      St Wz G0 (Ky bn (Ob (.cells (opC opN).toArray 32 (0, 0))) :: Ky (.pointer (some ⟨bj, 0, none⟩) : Value) (Dk zs dj) :: Ky (.pointer (some ⟨ba, 0, none⟩) : Value) (Dk zs Db) :: Ky (.pointer (some ⟨bw, 0, none⟩) : Value) (Dk zs Db) :: Ky (.pointer (some ⟨bs, 0, none⟩) : Value) (Dk zs Db) :: Ky PoolK.a (Pl zs) :: []) W') (fun p => ob.length - p.1) (0, 0) (fun _ => rfl) rfl ⟨Nat.zero_le _, zs4, D, q2, rfl, rfl, p2, by rw [p2]; rfl, by omega, by omega, h⟩ ?_
    clear h
    rintro next ⟨i, n⟩ W3 hnext ⟨hi, zs, dj, qj, dd, dr, dp, hn, hnk, cj, h⟩
    simp only at hi dp hn hnk cj
    have hnow : D.now = D.dur := by unfold Dd.now; rw [p2]; rfl
    refine app2 ?_
    refine x_lenS hb ?_
    refine a_lss (ifd (fun hlt => ?_) fun hlt => ?_)
    · have hil : i < ob.length := by simp only at hlt; omega
      obtain ⟨o, ho⟩ : ∃ o, ob[i]? = some o := ⟨_, List.getElem?_eq_getElem hil⟩
      have hom := List.mem_of_getElem? ho
      have hF := hfb o hom
      have hS := hsb o hom
      have hjn : dj.now = apps (chs D.room (ob.take i) D.now) D.now := by
        show apps dj.pend dj.dur = _
        rw [dd, dp, hnow]
      obtain ⟨o1, o2, o3, o4⟩ := op1_chg qj o
      have hsu := chs_succ (room := D.room) ho D.now
      rw [← hjn, ← dr] at hsu
      refine jni (fun vs W' => ∃ n', vs = [vb, .int .i64 keep, .int .i64 torn, .pointer (some ⟨ba, 0, none⟩), .pointer (some ⟨bs, 0, none⟩), .pointer (some ⟨bj, 0, none⟩), .pointer (some ⟨bw, 0, none⟩), nV .i64 n', .pointer (some ⟨bn, 0, none⟩), nV .i64 i] ∧ ∃ zs dj, dj.Q ∧ dj.dur = D.dur ∧ dj.room = D.room ∧ dj.pend = chs D.room (ob.take (i + 1)) D.now ∧ n' = dj.pend.length ∧ (n' : Int) ≤ keep ∧ dj.calls ≤ D.calls + (i + 1) ∧
        St Wz G0 (Ky bn (Ob (.cells (opC opN).toArray 32 (0, 0))) :: Ky (.pointer (some ⟨bj, 0, none⟩) : Value) (Dk zs dj) :: Ky (.pointer (some ⟨ba, 0, none⟩) : Value) (Dk zs Db) :: Ky (.pointer (some ⟨bw, 0, none⟩) : Value) (Dk zs Db) :: Ky (.pointer (some ⟨bs, 0, none⟩) : Value) (Dk zs Db) :: Ky PoolK.a (Pl zs) :: []) W') ?_ ?_
      · rintro vs W4 _ ⟨n', rfl, hrest⟩
        refine app10 ?_
        refine a_add64 (by omega) (by omega) ?_
        rw [show ((i : Int) + 1) = ((i + 1 : Nat) : Int) by push_cast; rfl]
        exact ⟨rfl, rfl, rfl, rfl, rfl, rfl, rfl, rfl, hnext (i + 1, n') W4 (by simp only; omega) ⟨by simp only; omega, hrest⟩⟩
      refine x_idx (hb.below h.low) hil fun g of hcell => ?_
      refine x_lds (cs := opC o) rfl (fun j u hu => hcell j u (List.getElem?_eq_some_iff.1 hu).1 (by rw [opC_get ho (List.getElem?_eq_some_iff.1 hu).1, hu])) ?_
      refine pends_spec (v := (.pointer (some ⟨bj, 0, none⟩) : Value)) h hF hS (by omega) fun zs5 W hz5 h => ?_
      replace h := upD (v := (.pointer (some ⟨ba, 0, none⟩) : Value)) h hz5
      replace h := upD (v := (.pointer (some ⟨bw, 0, none⟩) : Value)) h hz5
      replace h := upD (v := (.pointer (some ⟨bs, 0, none⟩) : Value)) h hz5
      rw [o4]
      cases hch : chgOf dj.room dj.now o with
      | none =>
        rw [hch] at hsu
        refine a_not (ift ?_)
        refine ⟨n, rfl, zs5, dj, qj, dd, dr, ?_, hn, hnk, by omega, h.to⟩
        rw [dr] at hsu
        rw [hsu, dp]; simp
      | some c =>
        rw [hch] at hsu o3
        refine a_not (iff' ?_)
        refine w_eql (ifd (fun hnk2 => ?_) fun hnk2 => ?_)
        · refine x_idx (hb.below h.low) hil fun g of hcell => ?_
          refine x_lds (cs := opC o) rfl (fun j u hu => hcell j u (List.getElem?_eq_some_iff.1 hu).1 (by rw [opC_get ho (List.getElem?_eq_some_iff.1 hu).1, hu])) ?_
          refine St.storeS (b := bn) (cs := opC opN) (cs' := opC o) h fun W h => ?_
          obtain ⟨rest, hrest⟩ := chs_split (room := D.room) (l := ob) (i := i + 1) D.now
          refine ⟨rfl, zs5, dj, o, qj, by omega, ?_, fun hk2 => ⟨hF, hS, chg_puts hch hk2⟩, h.to⟩
          refine next_some (c := c) (rest := rest) qb (dd.trans b1.symm) ?_ (by omega) hch
          rw [dr] at hsu
          rw [b3, hrest, hsu, dp]; simp
        · refine a_add64 (by omega) (by omega) ?_
          refine a_slice (SlT.el (P := Try.prog) (t := 22) (e := 32) (sz := 7)) hb (by omega) (by omega) (by omega) fun v1 hv1 => ?_
          have hone : ((rcells opC ob).drop ((i : Int).toNat * 7)).take ((((i : Int) + 1).toNat - (i : Int).toNat) * 7) = rcells opC [o] := by
            rw [show (i : Int).toNat = i from rfl, show ((i : Int) + 1).toNat - i = 1 by omega, ← rc_drop (f := opC) (sz := 7) (fun _ => rfl), ← rc_take (f := opC) (sz := 7) (fun _ => rfl)]
            congr 1
            rw [List.drop_eq_getElem_cons hil]
            have := (List.getElem?_eq_some_iff.1 ho).2
            rw [this]; rfl
          rw [hone, show ((i : Int) + 1).toNat - (i : Int).toNat = 1 by omega] at hv1
          refine ldoes_spec (ops := [o]) (v := (.pointer (some ⟨bj, 0, none⟩) : Value)) h hv1 (by simpa using hF) (by simpa using hS) (by simp only [List.length_singleton]; omega) fun zs6 W hz6 h => ?_
          replace h := upD (v := (.pointer (some ⟨ba, 0, none⟩) : Value)) h hz6
          replace h := upD (v := (.pointer (some ⟨bw, 0, none⟩) : Value)) h hz6
          replace h := upD (v := (.pointer (some ⟨bs, 0, none⟩) : Value)) h hz6
          have co := op1_calls dj o
          have hjl := qj.v.len
          have eo : opsP dj [o] = op1 dj o := rfl
          rw [eo] at h
          refine a_add64 (by omega) (by omega) ?_
          rw [show ((n : Int) + 1) = ((n + 1 : Nat) : Int) by push_cast; rfl]
          refine ⟨n + 1, rfl, zs6, op1 dj o, op1_q qj o, o1.trans dd, o2.trans dr, ?_, ?_, by omega, by omega, h.to⟩
          · rw [dr] at hsu
            rw [o3, hsu, dp]
          · rw [o3, List.length_append, hn]; rfl
    · have hil : i = ob.length := by simp only at hlt; omega
      subst hil
      rw [List.take_length] at dp
      refine ⟨rfl, zs, dj, opN, qj, by omega, ?_, fun hk2 => (by cases hk2), h.to⟩
      refine next_none qb (dd.trans b1.symm) (dp.trans b3.symm) ?_ (by decide)
      rw [b3, ← dp]; omega
end
end Go.Proofs.Ytdoopdbfajgnjaa
