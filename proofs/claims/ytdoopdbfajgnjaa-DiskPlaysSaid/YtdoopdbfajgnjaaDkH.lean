/-
  FILES THAT FALL: disks without events; DiskTwins, DiskMoves: they return true.
-/
import Derived.Test.YtdoopdbfajgnjaaDkG
namespace Go.Ez
open Go Go.Proofs Go.RowKit
set_option linter.unusedSimpArgs false
set_option linter.unusedVariables false
theorem OpF.below {W W' : World} {o : OpM} (h : OpF W o) (hb : Below W.heap.size W W') : OpF W' o := ⟨Sl.below h.bytes hb, h.events.below hb⟩
structure Dd.Q (d : Dd) : Prop where
  v : d.V
  plan : d.plan = []
  up : d.down = false
theorem call_Q {d : Dd} (h : d.Q) (l : List Txt) : d.call l = (d.tick, false, if l.all okN then 0 else 11) := by
  have hp := h.plan
  have hu := h.up
  clear h
  cases d
  simp only at hp hu
  subst hp; subst hu
  rfl
theorem newD_Q {room : Int} (h0 : 0 ≤ room) (h1 : room ≤ 1073741824) : (newD room).Q := ⟨newD_V h0 h1, rfl, rfl⟩
theorem appendP_Q {d : Dd} (h : d.Q) (s b : Txt) : d.appendP s b = if okN s = true then (if d.room - tot d.now < b.length then (d.tick, 8) else if b = [] ∧ (getK s d.now).isSome then (d.tick, 0) else (d.tick.does (.puts s b), 0)) else (d.tick, 11) := by
  unfold Dd.appendP
  rw [call_Q h]
  dsimp only
  cases hs : okN s
  · simp [hs]
  · simp only [List.all_cons, hs, List.all_nil, Bool.and_self, if_true, ne_eq, not_true_eq_false, if_false, Bool.false_eq_true, false_or]
    rfl
theorem cutP_Q {d : Dd} (h : d.Q) (s : Txt) (n : Int) : d.cutP s n = if okN s = true then (if getK s d.now = none then (d.tick, 6) else if n < 0 ∨ (gt s d.now).length < n then (d.tick, 1) else if n = (gt s d.now).length then (d.tick, 0) else (d.tick.does (.cuts s n.toNat), 0)) else (d.tick, 11) := by
  unfold Dd.cutP
  rw [call_Q h]
  dsimp only
  cases hs : okN s
  · simp [hs]
  · simp only [List.all_cons, hs, List.all_nil, Bool.and_self, if_true, ne_eq, not_true_eq_false, if_false]
    rfl
theorem renameP_Q {d : Dd} (h : d.Q) (s t : Txt) : d.renameP s t = if okN s = true ∧ okN t = true then (if getK s d.now = none then (d.tick, 6) else if s = t then (d.tick, 0) else (d.tick.does (.names s t), 0)) else (d.tick, 11) := by
  unfold Dd.renameP
  rw [call_Q h]
  dsimp only
  cases hs : okN s
  · simp [hs]
  · cases ht : okN t
    · simp [hs, ht]
    · simp only [List.all_cons, hs, ht, List.all_nil, Bool.and_self, if_true, ne_eq, not_true_eq_false, if_false, and_self]
      rfl
theorem deleteP_Q {d : Dd} (h : d.Q) (s : Txt) : d.deleteP s = if okN s = true then (if getK s d.now = none then (d.tick, 6) else (d.tick.does (.takes s), 0)) else (d.tick, 11) := by
  unfold Dd.deleteP
  rw [call_Q h]
  dsimp only
  cases hs : okN s
  · simp [hs]
  · simp only [List.all_cons, hs, List.all_nil, Bool.and_self, if_true, ne_eq, not_true_eq_false, if_false]
    rfl
theorem syncP_Q {d : Dd} (h : d.Q) : d.syncP = ({ d.tick with dur := d.now, pend := [] }, 0) := by
  unfold Dd.syncP
  rw [call_Q h]
  rfl
theorem appendP_q {d : Dd} (h : d.Q) (s b : Txt) : (d.appendP s b).1.Q := by
  refine ⟨h.v.appendP s b, ?_, ?_⟩
  all_goals
    rw [appendP_Q h]
    repeat' split
    all_goals first | exact h.plan | exact h.up
theorem cutP_q {d : Dd} (h : d.Q) (s : Txt) (n : Int) : (d.cutP s n).1.Q := by
  refine ⟨h.v.cutP s n, ?_, ?_⟩
  all_goals
    rw [cutP_Q h]
    repeat' split
    all_goals first | exact h.plan | exact h.up
theorem renameP_q {d : Dd} (h : d.Q) (s t : Txt) : (d.renameP s t).1.Q := by
  refine ⟨h.v.renameP s t, ?_, ?_⟩
  all_goals
    rw [renameP_Q h]
    repeat' split
    all_goals first | exact h.plan | exact h.up
theorem deleteP_q {d : Dd} (h : d.Q) (s : Txt) : (d.deleteP s).1.Q := by
  refine ⟨h.v.deleteP s, ?_, ?_⟩
  all_goals
    rw [deleteP_Q h]
    repeat' split
    all_goals first | exact h.plan | exact h.up
theorem syncP_q {d : Dd} (h : d.Q) : d.syncP.1.Q := by
  refine ⟨h.v.syncP, ?_, ?_⟩
  all_goals
    rw [syncP_Q h]
    first | exact h.plan | exact h.up
theorem op1_q {d : Dd} (h : d.Q) (o : OpM) : (op1 d o).Q := by
  unfold op1
  split
  · exact appendP_q h _ _
  · split
    · exact cutP_q h _ _
    · split
      · exact renameP_q h _ _
      · split
        · exact deleteP_q h _
        · exact h
theorem opsP_q : ∀ (l : List OpM) {d : Dd}, d.Q → (opsP d l).Q
  | [], _, h => h
  | o :: l, d, h => opsP_q l (op1_q h o)
theorem tick_now (d : Dd) : d.tick.now = d.now := rfl
/-- a crash with all kept -/
theorem crash_all {d : Dd} {torn : Int} (hl : d.pend.length ≤ 1048576) : (d.crash 1048576 torn).now = d.now := by
  unfold Dd.crash
  split
  · rfl
  · have hk : keepN 1048576 d.pend.length = d.pend.length := by unfold keepN; omega
    show tornM d.pend[keepN 1048576 d.pend.length]? torn (apps (d.pend.take (keepN 1048576 d.pend.length)) d.dur) = d.now
    rw [hk, List.take_length, List.getElem?_eq_none (Nat.le_refl _)]
    rfl
theorem crash_down (d : Dd) (k t : Int) : (d.crash k t).down = true := by
  unfold Dd.crash
  split
  · assumption
  · rfl
theorem sync_down {d : Dd} (hd : d.down = true) (hp : d.plan = []) : d.syncP = (d.tick, 9) := by
  have : d.call [] = (d.tick, false, 9) := by
    cases d
    simp only at hp hd
    subst hp; subst hd
    rfl
  unfold Dd.syncP
  rw [this]
  rfl
end Go.Ez
namespace Go.Proofs.Ytdoopdbfajgnjaa
open Go Go.Ez Go.RowKit
set_option linter.unusedSimpArgs false
set_option linter.unusedVariables false
section
variable {W : World} {RR : Value → World → Prop}
/-- DiskTwins -/
theorem twins_spec {room : Int} {oa ob : List OpM} {va vb : Value} (ha : Sl W 7 va oa.length (rcells opC oa)) (hfa : ∀ o ∈ oa, OpF W o) (hb : Sl W 7 vb ob.length (rcells opC ob)) (hfb : ∀ o ∈ ob, OpF W o)
    (k : ∀ W', Below W.heap.size W W' → RR (.bool true) W') : CallF Try.prog 6 #[.int .i64 room, va, vb] W RR := by
  refine sh6_calls ?_
  unfold sh6
  have out : ∀ {W1 : World}, Below W.heap.size W W1 → CallF Try.prog 8 #[] W1 RR := fun hb1 => first_spec fun W2 hb2 => k W2 (Below.next hb1 hb2)
  refine first_spec fun W1 hb1 => ?_
  (repeat (first | (with_reducible refine ift ?_) | (with_reducible refine iff' ?_) | (with_reducible refine a_lss ?_) | (with_reducible refine a_leq ?_) | (with_reducible refine a_gtr ?_) | (with_reducible refine a_geq ?_) | (with_reducible refine w_eql ?_) | (with_reducible refine w_neq ?_) | (with_reducible refine s_eql ?_) | (with_reducible refine s_neq ?_) | ((with_reducible refine a_add64 ?h0 ?h1 ?_); (case h0 => omega); (case h1 => omega);  skip) | ((with_reducible refine a_sub64 ?h0 ?h1 ?_); (case h0 => omega); (case h1 => omega);  skip) | ((with_reducible refine a_mul64 ?h0 ?h1 ?_); (case h0 => omega); (case h1 => omega);  skip) | (with_reducible refine a_notd ?_) | (with_reducible refine a_not ?_) | (with_reducible refine a_ext0 ?_) | (with_reducible refine a_ext1 ?_) | (with_reducible refine a_ext2 ?_) | (with_reducible refine x_len ?_) | (with_reducible refine x_lens ?_) | (with_reducible refine x_eqb ?_) | (with_reducible refine x_neb ?_) | (with_reducible refine x_nilP ?_) | (with_reducible refine x_nilPn ?_) | (with_reducible refine x_nilF ?_) | (with_reducible refine x_nilFF ?_) | (with_reducible refine w_eqlL ?_) | (with_reducible refine w_neqL ?_) | (with_reducible refine s_eqlL ?_) | (with_reducible refine ifnt ?_) | (with_reducible refine ifnf ?_) | (with_reducible refine x_eqB ?_) | (with_reducible refine x_neB ?_) | (with_reducible refine x_lssL ?_) | (with_reducible refine x_gtrL ?_) | (with_reducible refine x_geqL ?_) | (with_reducible refine s_neqL ?_) | (with_reducible refine St.load h ?_) | (with_reducible refine St.loadS h ?_) | (with_reducible refine a_fld0 ?_) | (with_reducible refine St.store h fun W h => ?_) | (with_reducible refine St.storeS h fun W h => ?_) | (with_reducible refine St.alloc h fun b W h => ?_) | (with_reducible refine St.allocS h fun b W h => ?_) | (with_reducible refine a_nil ?_) | (with_reducible refine ss_load ?_) | (with_reducible refine ss_loadS ?_) | (with_reducible refine ss_eqb ?_)))
  refine few_spec (ha.below hb1) (fun o ho => (hfa o ho).below hb1) fun b0 hs1 => ?_
  refine a_not (ifnb (fun hx => out hb1) fun hx => ?_)
  obtain ⟨hla, hsa⟩ := hs1 hx
  refine few_spec (hb.below hb1) (fun o ho => (hfb o ho).below hb1) fun b1 hs2 => ?_
  refine a_not (ifnb (fun hx => out hb1) fun hx => ?_)
  obtain ⟨hlb, hsb⟩ := hs2 hx
  refine x_lenS (ha.below hb1) (a_gtr (ifd (fun hx => out hb1) fun hx => ?_))
  refine x_lenS (hb.below hb1) (a_gtr (ifd (fun hx => out hb1) fun hx => ?_))
  have h := ((St.start W).ext hb1).plNil .a
  refine newd_spec [] h (fun hx => ?_) fun h0 h1 bd W2 h => ?_
  · refine a_ext0 (a_ext1 ?_)
    (repeat (first | (with_reducible refine ift ?_) | (with_reducible refine iff' ?_) | (with_reducible refine a_lss ?_) | (with_reducible refine a_leq ?_) | (with_reducible refine a_gtr ?_) | (with_reducible refine a_geq ?_) | (with_reducible refine w_eql ?_) | (with_reducible refine w_neq ?_) | (with_reducible refine s_eql ?_) | (with_reducible refine s_neq ?_) | ((with_reducible refine a_add64 ?h0 ?h1 ?_); (case h0 => omega); (case h1 => omega);  skip) | ((with_reducible refine a_sub64 ?h0 ?h1 ?_); (case h0 => omega); (case h1 => omega);  skip) | ((with_reducible refine a_mul64 ?h0 ?h1 ?_); (case h0 => omega); (case h1 => omega);  skip) | (with_reducible refine a_notd ?_) | (with_reducible refine a_not ?_) | (with_reducible refine a_ext0 ?_) | (with_reducible refine a_ext1 ?_) | (with_reducible refine a_ext2 ?_) | (with_reducible refine x_len ?_) | (with_reducible refine x_lens ?_) | (with_reducible refine x_eqb ?_) | (with_reducible refine x_neb ?_) | (with_reducible refine x_nilP ?_) | (with_reducible refine x_nilPn ?_) | (with_reducible refine x_nilF ?_) | (with_reducible refine x_nilFF ?_) | (with_reducible refine w_eqlL ?_) | (with_reducible refine w_neqL ?_) | (with_reducible refine s_eqlL ?_) | (with_reducible refine ifnt ?_) | (with_reducible refine ifnf ?_) | (with_reducible refine x_eqB ?_) | (with_reducible refine x_neB ?_) | (with_reducible refine x_lssL ?_) | (with_reducible refine x_gtrL ?_) | (with_reducible refine x_geqL ?_) | (with_reducible refine s_neqL ?_) | (with_reducible refine St.load h ?_) | (with_reducible refine St.loadS h ?_) | (with_reducible refine a_fld0 ?_) | (with_reducible refine St.store h fun W h => ?_) | (with_reducible refine St.storeS h fun W h => ?_) | (with_reducible refine St.alloc h fun b W h => ?_) | (with_reducible refine St.allocS h fun b W h => ?_) | (with_reducible refine a_nil ?_) | (with_reducible refine ss_load ?_) | (with_reducible refine ss_loadS ?_) | (with_reducible refine ss_eqb ?_)))
    refine ift ?_
    refine first_spec fun W3 hb3 => ?_
    refine ift ?_
    (repeat (first | (with_reducible refine ift ?_) | (with_reducible refine iff' ?_) | (with_reducible refine a_lss ?_) | (with_reducible refine a_leq ?_) | (with_reducible refine a_gtr ?_) | (with_reducible refine a_geq ?_) | (with_reducible refine w_eql ?_) | (with_reducible refine w_neq ?_) | (with_reducible refine s_eql ?_) | (with_reducible refine s_neq ?_) | ((with_reducible refine a_add64 ?h0 ?h1 ?_); (case h0 => omega); (case h1 => omega);  skip) | ((with_reducible refine a_sub64 ?h0 ?h1 ?_); (case h0 => omega); (case h1 => omega);  skip) | ((with_reducible refine a_mul64 ?h0 ?h1 ?_); (case h0 => omega); (case h1 => omega);  skip) | (with_reducible refine a_notd ?_) | (with_reducible refine a_not ?_) | (with_reducible refine a_ext0 ?_) | (with_reducible refine a_ext1 ?_) | (with_reducible refine a_ext2 ?_) | (with_reducible refine x_len ?_) | (with_reducible refine x_lens ?_) | (with_reducible refine x_eqb ?_) | (with_reducible refine x_neb ?_) | (with_reducible refine x_nilP ?_) | (with_reducible refine x_nilPn ?_) | (with_reducible refine x_nilF ?_) | (with_reducible refine x_nilFF ?_) | (with_reducible refine w_eqlL ?_) | (with_reducible refine w_neqL ?_) | (with_reducible refine s_eqlL ?_) | (with_reducible refine ifnt ?_) | (with_reducible refine ifnf ?_) | (with_reducible refine x_eqB ?_) | (with_reducible refine x_neB ?_) | (with_reducible refine x_lssL ?_) | (with_reducible refine x_gtrL ?_) | (with_reducible refine x_geqL ?_) | (with_reducible refine s_neqL ?_) | (with_reducible refine St.load h ?_) | (with_reducible refine St.loadS h ?_) | (with_reducible refine a_fld0 ?_) | (with_reducible refine St.store h fun W h => ?_) | (with_reducible refine St.storeS h fun W h => ?_) | (with_reducible refine St.alloc h fun b W h => ?_) | (with_reducible refine St.allocS h fun b W h => ?_) | (with_reducible refine a_nil ?_) | (with_reducible refine ss_load ?_) | (with_reducible refine ss_loadS ?_) | (with_reducible refine ss_eqb ?_)))
    exact k W3 (Below.next h.low hb3)
  refine a_ext0 (a_ext1 ?_)
  (repeat (first | (with_reducible refine ift ?_) | (with_reducible refine iff' ?_) | (with_reducible refine a_lss ?_) | (with_reducible refine a_leq ?_) | (with_reducible refine a_gtr ?_) | (with_reducible refine a_geq ?_) | (with_reducible refine w_eql ?_) | (with_reducible refine w_neq ?_) | (with_reducible refine s_eql ?_) | (with_reducible refine s_neq ?_) | ((with_reducible refine a_add64 ?h0 ?h1 ?_); (case h0 => omega); (case h1 => omega);  skip) | ((with_reducible refine a_sub64 ?h0 ?h1 ?_); (case h0 => omega); (case h1 => omega);  skip) | ((with_reducible refine a_mul64 ?h0 ?h1 ?_); (case h0 => omega); (case h1 => omega);  skip) | (with_reducible refine a_notd ?_) | (with_reducible refine a_not ?_) | (with_reducible refine a_ext0 ?_) | (with_reducible refine a_ext1 ?_) | (with_reducible refine a_ext2 ?_) | (with_reducible refine x_len ?_) | (with_reducible refine x_lens ?_) | (with_reducible refine x_eqb ?_) | (with_reducible refine x_neb ?_) | (with_reducible refine x_nilP ?_) | (with_reducible refine x_nilPn ?_) | (with_reducible refine x_nilF ?_) | (with_reducible refine x_nilFF ?_) | (with_reducible refine w_eqlL ?_) | (with_reducible refine w_neqL ?_) | (with_reducible refine s_eqlL ?_) | (with_reducible refine ifnt ?_) | (with_reducible refine ifnf ?_) | (with_reducible refine x_eqB ?_) | (with_reducible refine x_neB ?_) | (with_reducible refine x_lssL ?_) | (with_reducible refine x_gtrL ?_) | (with_reducible refine x_geqL ?_) | (with_reducible refine s_neqL ?_) | (with_reducible refine St.load h ?_) | (with_reducible refine St.loadS h ?_) | (with_reducible refine a_fld0 ?_) | (with_reducible refine St.store h fun W h => ?_) | (with_reducible refine St.storeS h fun W h => ?_) | (with_reducible refine St.alloc h fun b W h => ?_) | (with_reducible refine St.allocS h fun b W h => ?_) | (with_reducible refine a_nil ?_) | (with_reducible refine ss_load ?_) | (with_reducible refine ss_loadS ?_) | (with_reducible refine ss_eqb ?_)))
  refine iff' ?_
  (repeat (first | (with_reducible refine ift ?_) | (with_reducible refine iff' ?_) | (with_reducible refine a_lss ?_) | (with_reducible refine a_leq ?_) | (with_reducible refine a_gtr ?_) | (with_reducible refine a_geq ?_) | (with_reducible refine w_eql ?_) | (with_reducible refine w_neq ?_) | (with_reducible refine s_eql ?_) | (with_reducible refine s_neq ?_) | ((with_reducible refine a_add64 ?h0 ?h1 ?_); (case h0 => omega); (case h1 => omega);  skip) | ((with_reducible refine a_sub64 ?h0 ?h1 ?_); (case h0 => omega); (case h1 => omega);  skip) | ((with_reducible refine a_mul64 ?h0 ?h1 ?_); (case h0 => omega); (case h1 => omega);  skip) | (with_reducible refine a_notd ?_) | (with_reducible refine a_not ?_) | (with_reducible refine a_ext0 ?_) | (with_reducible refine a_ext1 ?_) | (with_reducible refine a_ext2 ?_) | (with_reducible refine x_len ?_) | (with_reducible refine x_lens ?_) | (with_reducible refine x_eqb ?_) | (with_reducible refine x_neb ?_) | (with_reducible refine x_nilP ?_) | (with_reducible refine x_nilPn ?_) | (with_reducible refine x_nilF ?_) | (with_reducible refine x_nilFF ?_) | (with_reducible refine w_eqlL ?_) | (with_reducible refine w_neqL ?_) | (with_reducible refine s_eqlL ?_) | (with_reducible refine ifnt ?_) | (with_reducible refine ifnf ?_) | (with_reducible refine x_eqB ?_) | (with_reducible refine x_neB ?_) | (with_reducible refine x_lssL ?_) | (with_reducible refine x_gtrL ?_) | (with_reducible refine x_geqL ?_) | (with_reducible refine s_neqL ?_) | (with_reducible refine St.load h ?_) | (with_reducible refine St.loadS h ?_) | (with_reducible refine a_fld0 ?_) | (with_reducible refine St.store h fun W h => ?_) | (with_reducible refine St.storeS h fun W h => ?_) | (with_reducible refine St.alloc h fun b W h => ?_) | (with_reducible refine St.allocS h fun b W h => ?_) | (with_reducible refine a_nil ?_) | (with_reducible refine ss_load ?_) | (with_reducible refine ss_loadS ?_) | (with_reducible refine ss_eqb ?_)))
  refine ifd_neg (by decide) ?_
  have q0 := newD_Q h0 h1
  have c0 : (newD room).calls = 0 := rfl
  generalize newD room = d at *
  refine ldoes_spec (v := (.pointer (some ⟨bd, 0, none⟩) : Value)) h ha hfa hsa (by omega) fun zs1 W h _h => ?_
  replace h := _h
  have q1 := opsP_q oa q0
  have c1 := opsP_calls oa d
  generalize opsP d oa = d1 at *
  refine copy_spec (v := (.pointer (some ⟨bd, 0, none⟩) : Value)) h (by omega) fun bc W h => ?_
  (repeat (first | (with_reducible refine ift ?_) | (with_reducible refine iff' ?_) | (with_reducible refine a_lss ?_) | (with_reducible refine a_leq ?_) | (with_reducible refine a_gtr ?_) | (with_reducible refine a_geq ?_) | (with_reducible refine w_eql ?_) | (with_reducible refine w_neq ?_) | (with_reducible refine s_eql ?_) | (with_reducible refine s_neq ?_) | ((with_reducible refine a_add64 ?h0 ?h1 ?_); (case h0 => omega); (case h1 => omega);  skip) | ((with_reducible refine a_sub64 ?h0 ?h1 ?_); (case h0 => omega); (case h1 => omega);  skip) | ((with_reducible refine a_mul64 ?h0 ?h1 ?_); (case h0 => omega); (case h1 => omega);  skip) | (with_reducible refine a_notd ?_) | (with_reducible refine a_not ?_) | (with_reducible refine a_ext0 ?_) | (with_reducible refine a_ext1 ?_) | (with_reducible refine a_ext2 ?_) | (with_reducible refine x_len ?_) | (with_reducible refine x_lens ?_) | (with_reducible refine x_eqb ?_) | (with_reducible refine x_neb ?_) | (with_reducible refine x_nilP ?_) | (with_reducible refine x_nilPn ?_) | (with_reducible refine x_nilF ?_) | (with_reducible refine x_nilFF ?_) | (with_reducible refine w_eqlL ?_) | (with_reducible refine w_neqL ?_) | (with_reducible refine s_eqlL ?_) | (with_reducible refine ifnt ?_) | (with_reducible refine ifnf ?_) | (with_reducible refine x_eqB ?_) | (with_reducible refine x_neB ?_) | (with_reducible refine x_lssL ?_) | (with_reducible refine x_gtrL ?_) | (with_reducible refine x_geqL ?_) | (with_reducible refine s_neqL ?_) | (with_reducible refine St.load h ?_) | (with_reducible refine St.loadS h ?_) | (with_reducible refine a_fld0 ?_) | (with_reducible refine St.store h fun W h => ?_) | (with_reducible refine St.storeS h fun W h => ?_) | (with_reducible refine St.alloc h fun b W h => ?_) | (with_reducible refine St.allocS h fun b W h => ?_) | (with_reducible refine a_nil ?_) | (with_reducible refine ss_load ?_) | (with_reducible refine ss_loadS ?_) | (with_reducible refine ss_eqb ?_)))
  refine iff' ?_
  refine alike_spec (freezeD (v := (.pointer (some ⟨bc, 0, none⟩) : Value)) h) (freezeD (v := (.pointer (some ⟨bd, 0, none⟩) : Value)) h) (by omega) (by omega) fun W hb4 => ?_
  replace h := h.ext hb4
  rw [decide_eq_true rfl]
  (repeat (first | (with_reducible refine ift ?_) | (with_reducible refine iff' ?_) | (with_reducible refine a_lss ?_) | (with_reducible refine a_leq ?_) | (with_reducible refine a_gtr ?_) | (with_reducible refine a_geq ?_) | (with_reducible refine w_eql ?_) | (with_reducible refine w_neq ?_) | (with_reducible refine s_eql ?_) | (with_reducible refine s_neq ?_) | ((with_reducible refine a_add64 ?h0 ?h1 ?_); (case h0 => omega); (case h1 => omega);  skip) | ((with_reducible refine a_sub64 ?h0 ?h1 ?_); (case h0 => omega); (case h1 => omega);  skip) | ((with_reducible refine a_mul64 ?h0 ?h1 ?_); (case h0 => omega); (case h1 => omega);  skip) | (with_reducible refine a_notd ?_) | (with_reducible refine a_not ?_) | (with_reducible refine a_ext0 ?_) | (with_reducible refine a_ext1 ?_) | (with_reducible refine a_ext2 ?_) | (with_reducible refine x_len ?_) | (with_reducible refine x_lens ?_) | (with_reducible refine x_eqb ?_) | (with_reducible refine x_neb ?_) | (with_reducible refine x_nilP ?_) | (with_reducible refine x_nilPn ?_) | (with_reducible refine x_nilF ?_) | (with_reducible refine x_nilFF ?_) | (with_reducible refine w_eqlL ?_) | (with_reducible refine w_neqL ?_) | (with_reducible refine s_eqlL ?_) | (with_reducible refine ifnt ?_) | (with_reducible refine ifnf ?_) | (with_reducible refine x_eqB ?_) | (with_reducible refine x_neB ?_) | (with_reducible refine x_lssL ?_) | (with_reducible refine x_gtrL ?_) | (with_reducible refine x_geqL ?_) | (with_reducible refine s_neqL ?_) | (with_reducible refine St.load h ?_) | (with_reducible refine St.loadS h ?_) | (with_reducible refine a_fld0 ?_) | (with_reducible refine St.store h fun W h => ?_) | (with_reducible refine St.storeS h fun W h => ?_) | (with_reducible refine St.alloc h fun b W h => ?_) | (with_reducible refine St.allocS h fun b W h => ?_) | (with_reducible refine a_nil ?_) | (with_reducible refine ss_load ?_) | (with_reducible refine ss_loadS ?_) | (with_reducible refine ss_eqb ?_)))
  refine ldoes_spec (v := (.pointer (some ⟨bc, 0, none⟩) : Value)) h hb hfb hsb (by omega) fun zs2 W hz2 h => ?_
  replace h := upD (v := (.pointer (some ⟨bd, 0, none⟩) : Value)) h hz2
  refine copy_spec (v := (.pointer (some ⟨bd, 0, none⟩) : Value)) h (by omega) fun bw W h => ?_
  (repeat (first | (with_reducible refine ift ?_) | (with_reducible refine iff' ?_) | (with_reducible refine a_lss ?_) | (with_reducible refine a_leq ?_) | (with_reducible refine a_gtr ?_) | (with_reducible refine a_geq ?_) | (with_reducible refine w_eql ?_) | (with_reducible refine w_neq ?_) | (with_reducible refine s_eql ?_) | (with_reducible refine s_neq ?_) | ((with_reducible refine a_add64 ?h0 ?h1 ?_); (case h0 => omega); (case h1 => omega);  skip) | ((with_reducible refine a_sub64 ?h0 ?h1 ?_); (case h0 => omega); (case h1 => omega);  skip) | ((with_reducible refine a_mul64 ?h0 ?h1 ?_); (case h0 => omega); (case h1 => omega);  skip) | (with_reducible refine a_notd ?_) | (with_reducible refine a_not ?_) | (with_reducible refine a_ext0 ?_) | (with_reducible refine a_ext1 ?_) | (with_reducible refine a_ext2 ?_) | (with_reducible refine x_len ?_) | (with_reducible refine x_lens ?_) | (with_reducible refine x_eqb ?_) | (with_reducible refine x_neb ?_) | (with_reducible refine x_nilP ?_) | (with_reducible refine x_nilPn ?_) | (with_reducible refine x_nilF ?_) | (with_reducible refine x_nilFF ?_) | (with_reducible refine w_eqlL ?_) | (with_reducible refine w_neqL ?_) | (with_reducible refine s_eqlL ?_) | (with_reducible refine ifnt ?_) | (with_reducible refine ifnf ?_) | (with_reducible refine x_eqB ?_) | (with_reducible refine x_neB ?_) | (with_reducible refine x_lssL ?_) | (with_reducible refine x_gtrL ?_) | (with_reducible refine x_geqL ?_) | (with_reducible refine s_neqL ?_) | (with_reducible refine St.load h ?_) | (with_reducible refine St.loadS h ?_) | (with_reducible refine a_fld0 ?_) | (with_reducible refine St.store h fun W h => ?_) | (with_reducible refine St.storeS h fun W h => ?_) | (with_reducible refine St.alloc h fun b W h => ?_) | (with_reducible refine St.allocS h fun b W h => ?_) | (with_reducible refine a_nil ?_) | (with_reducible refine ss_load ?_) | (with_reducible refine ss_loadS ?_) | (with_reducible refine ss_eqb ?_)))
  refine iff' ?_
  refine alike_spec (freezeD (v := (.pointer (some ⟨bw, 0, none⟩) : Value)) h) (freezeD (v := (.pointer (some ⟨bd, 0, none⟩) : Value)) h) (by omega) (by omega) fun W hb4 => ?_
  replace h := h.ext hb4
  rw [decide_eq_true rfl]
  (repeat (first | (with_reducible refine ift ?_) | (with_reducible refine iff' ?_) | (with_reducible refine a_lss ?_) | (with_reducible refine a_leq ?_) | (with_reducible refine a_gtr ?_) | (with_reducible refine a_geq ?_) | (with_reducible refine w_eql ?_) | (with_reducible refine w_neq ?_) | (with_reducible refine s_eql ?_) | (with_reducible refine s_neq ?_) | ((with_reducible refine a_add64 ?h0 ?h1 ?_); (case h0 => omega); (case h1 => omega);  skip) | ((with_reducible refine a_sub64 ?h0 ?h1 ?_); (case h0 => omega); (case h1 => omega);  skip) | ((with_reducible refine a_mul64 ?h0 ?h1 ?_); (case h0 => omega); (case h1 => omega);  skip) | (with_reducible refine a_notd ?_) | (with_reducible refine a_not ?_) | (with_reducible refine a_ext0 ?_) | (with_reducible refine a_ext1 ?_) | (with_reducible refine a_ext2 ?_) | (with_reducible refine x_len ?_) | (with_reducible refine x_lens ?_) | (with_reducible refine x_eqb ?_) | (with_reducible refine x_neb ?_) | (with_reducible refine x_nilP ?_) | (with_reducible refine x_nilPn ?_) | (with_reducible refine x_nilF ?_) | (with_reducible refine x_nilFF ?_) | (with_reducible refine w_eqlL ?_) | (with_reducible refine w_neqL ?_) | (with_reducible refine s_eqlL ?_) | (with_reducible refine ifnt ?_) | (with_reducible refine ifnf ?_) | (with_reducible refine x_eqB ?_) | (with_reducible refine x_neB ?_) | (with_reducible refine x_lssL ?_) | (with_reducible refine x_gtrL ?_) | (with_reducible refine x_geqL ?_) | (with_reducible refine s_neqL ?_) | (with_reducible refine St.load h ?_) | (with_reducible refine St.loadS h ?_) | (with_reducible refine a_fld0 ?_) | (with_reducible refine St.store h fun W h => ?_) | (with_reducible refine St.storeS h fun W h => ?_) | (with_reducible refine St.alloc h fun b W h => ?_) | (with_reducible refine St.allocS h fun b W h => ?_) | (with_reducible refine a_nil ?_) | (with_reducible refine ss_load ?_) | (with_reducible refine ss_loadS ?_) | (with_reducible refine ss_eqb ?_)))
  refine ldoes_spec (v := (.pointer (some ⟨bd, 0, none⟩) : Value)) h hb hfb hsb (by omega) fun zs3 W hz3 h => ?_
  replace h := upD (v := (.pointer (some ⟨bc, 0, none⟩) : Value)) h hz3
  have q2 := opsP_q ob q1
  have c2 := opsP_calls ob d1
  generalize opsP d1 ob = d2 at *
  refine alike_spec (freezeD (v := (.pointer (some ⟨bc, 0, none⟩) : Value)) h) (freezeD (v := (.pointer (some ⟨bd, 0, none⟩) : Value)) h) (by omega) (by omega) fun W hb4 => ?_
  replace h := h.ext hb4
  rw [decide_eq_true rfl]
  (repeat (first | (with_reducible refine ift ?_) | (with_reducible refine iff' ?_) | (with_reducible refine a_lss ?_) | (with_reducible refine a_leq ?_) | (with_reducible refine a_gtr ?_) | (with_reducible refine a_geq ?_) | (with_reducible refine w_eql ?_) | (with_reducible refine w_neq ?_) | (with_reducible refine s_eql ?_) | (with_reducible refine s_neq ?_) | ((with_reducible refine a_add64 ?h0 ?h1 ?_); (case h0 => omega); (case h1 => omega);  skip) | ((with_reducible refine a_sub64 ?h0 ?h1 ?_); (case h0 => omega); (case h1 => omega);  skip) | ((with_reducible refine a_mul64 ?h0 ?h1 ?_); (case h0 => omega); (case h1 => omega);  skip) | (with_reducible refine a_notd ?_) | (with_reducible refine a_not ?_) | (with_reducible refine a_ext0 ?_) | (with_reducible refine a_ext1 ?_) | (with_reducible refine a_ext2 ?_) | (with_reducible refine x_len ?_) | (with_reducible refine x_lens ?_) | (with_reducible refine x_eqb ?_) | (with_reducible refine x_neb ?_) | (with_reducible refine x_nilP ?_) | (with_reducible refine x_nilPn ?_) | (with_reducible refine x_nilF ?_) | (with_reducible refine x_nilFF ?_) | (with_reducible refine w_eqlL ?_) | (with_reducible refine w_neqL ?_) | (with_reducible refine s_eqlL ?_) | (with_reducible refine ifnt ?_) | (with_reducible refine ifnf ?_) | (with_reducible refine x_eqB ?_) | (with_reducible refine x_neB ?_) | (with_reducible refine x_lssL ?_) | (with_reducible refine x_gtrL ?_) | (with_reducible refine x_geqL ?_) | (with_reducible refine s_neqL ?_) | (with_reducible refine St.load h ?_) | (with_reducible refine St.loadS h ?_) | (with_reducible refine a_fld0 ?_) | (with_reducible refine St.store h fun W h => ?_) | (with_reducible refine St.storeS h fun W h => ?_) | (with_reducible refine St.alloc h fun b W h => ?_) | (with_reducible refine St.allocS h fun b W h => ?_) | (with_reducible refine a_nil ?_) | (with_reducible refine ss_load ?_) | (with_reducible refine ss_loadS ?_) | (with_reducible refine ss_eqb ?_)))
  refine used_spec (freezeD (v := (.pointer (some ⟨bc, 0, none⟩) : Value)) h) fun W hb4 => ?_
  replace h := h.ext hb4
  refine used_spec (freezeD (v := (.pointer (some ⟨bd, 0, none⟩) : Value)) h) fun W hb4 => ?_
  replace h := h.ext hb4
  refine w_neq (ifd_neg (by simp) ?_)
  refine calls_spec (freezeD (v := (.pointer (some ⟨bc, 0, none⟩) : Value)) h) ?_
  refine calls_spec (freezeD (v := (.pointer (some ⟨bd, 0, none⟩) : Value)) h) ?_
  refine w_neq (ifd_neg (by simp) ?_)
  obtain ⟨ev, oe, h⟩ := openD (v := (.pointer (some ⟨bd, 0, none⟩) : Value)) h
  refine crash_spec (v := (.pointer (some ⟨bd, 0, none⟩) : Value)) (keep := 1048576) (torn := -1) h fun zs4 W hz4 h => ?_
  replace h := shutD (v := (.pointer (some ⟨bd, 0, none⟩) : Value)) h
  replace h := upD (v := (.pointer (some ⟨bc, 0, none⟩) : Value)) h hz4
  have hcc := crash_calls d2 1048576 (-1)
  have hcd := crash_down d2 1048576 (-1)
  have hlen := q2.v.len
  have hnow := crash_all (d := d2) (torn := -1) (by omega)
  generalize hd3 : d2.crash 1048576 (-1) = d3 at *
  refine sync_spec (v := (.pointer (some ⟨bd, 0, none⟩) : Value)) h (by omega) fun zs5 W hz5 h => ?_
  rw [sync_down hcd (hcc.2.1.trans q2.plan)] at h ⊢
  replace h := upD (v := (.pointer (some ⟨bc, 0, none⟩) : Value)) h hz5
  refine reboot_spec (v := (.pointer (some ⟨bd, 0, none⟩) : Value)) h fun W h => ?_
  refine first_spec fun W hb5 => ?_
  replace h := h.ext hb5
  refine ift ?_
  refine w_eql (ifd_pos rfl ?_)
  refine alike_spec (freezeD (v := (.pointer (some ⟨bc, 0, none⟩) : Value)) h) (freezeD (v := (.pointer (some ⟨bd, 0, none⟩) : Value)) h) (by omega) (by show d3.calls + 1 ≤ _; omega) fun W hb4 => ?_
  replace h := h.ext hb4
  rw [decide_eq_true (show d2.now = (Dd.reboot d3.tick).now from hnow.symm)]
  refine ift ?_
  refine up_spec (freezeD (v := (.pointer (some ⟨bd, 0, none⟩) : Value)) h) ?_
  exact k _ h.low
end
end Go.Proofs.Ytdoopdbfajgnjaa
