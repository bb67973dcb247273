/-
  FILES THAT FALL: the statements' own: operations as they are read, done one by one; what pends; the examples.
-/
import Derived.Test.YtdoopdbfajgnjaaDkF
namespace Go.Ez
open Go Go.Proofs Go.RowKit
set_option linter.unusedSimpArgs false
set_option linter.unusedVariables false
structure OpM where
  kind : Int
  a : Int
  b : Int
  name : Txt
  to : Txt
  bv : Sv
  bytes : Txt
  ev : Sv
  events : List Ev
def opC (o : OpM) : List Value := [.int .i64 o.kind, .int .i64 o.a, .int .i64 o.b, strV o.name, strV o.to, svV o.bv, svV o.ev]
structure OpF (W : World) (o : OpM) : Prop where
  bytes : By W (svV o.bv) o.bytes
  events : Sl W 4 (svV o.ev) o.events.length (rcells evC o.events)
structure OpS (o : OpM) : Prop where
  name : o.name.length ≤ 300
  to : o.to.length ≤ 300
  events : o.events.length ≤ 40
  bytes : o.bytes.length ≤ 20000
instance {o : OpM} : OneL (opC o) := ⟨fun v hv => by
  simp only [opC, List.mem_cons, List.not_mem_nil, or_false] at hv
  rcases hv with rfl | rfl | rfl | rfl | rfl | rfl | rfl <;> rfl⟩
instance {o : OpM} : Len (opC o) 7 := ⟨rfl⟩
def op1 (d : Dd) (o : OpM) : Dd := if o.kind = 2 then (d.appendP o.name o.bytes).1 else if o.kind = 3 then (d.cutP o.name o.a).1 else if o.kind = 4 then (d.renameP o.name o.to).1 else if o.kind = 5 then (d.deleteP o.name).1 else d
def opsP (d : Dd) (l : List OpM) : Dd := l.foldl op1 d
theorem appendP_calls (d : Dd) (s b : Txt) : (d.appendP s b).1.calls = d.calls + 1 := by
  have := (call_calls d [s]).1
  unfold Dd.appendP
  dsimp only
  split
  · exact this
  · split
    · exact this
    · split <;> exact this
theorem cutP_calls (d : Dd) (s : Txt) (n : Int) : (d.cutP s n).1.calls = d.calls + 1 := by
  have := (call_calls d [s]).1
  unfold Dd.cutP
  dsimp only
  split
  · exact this
  · split
    · exact this
    · split
      · exact this
      · split <;> exact this
theorem renameP_calls (d : Dd) (s t : Txt) : (d.renameP s t).1.calls = d.calls + 1 := by
  have := (call_calls d [s, t]).1
  unfold Dd.renameP
  dsimp only
  split
  · exact this
  · split
    · exact this
    · split <;> exact this
theorem deleteP_calls (d : Dd) (s : Txt) : (d.deleteP s).1.calls = d.calls + 1 := by
  have := (call_calls d [s]).1
  unfold Dd.deleteP
  dsimp only
  split
  · exact this
  · split <;> exact this
theorem syncP_calls (d : Dd) : d.syncP.1.calls = d.calls + 1 := by
  have := (call_calls d []).1
  unfold Dd.syncP
  dsimp only
  split <;> exact this
theorem op1_calls (d : Dd) (o : OpM) : (op1 d o).calls ≤ d.calls + 1 := by
  unfold op1
  split
  · rw [appendP_calls]; exact Nat.le_refl _
  · split
    · rw [cutP_calls]; exact Nat.le_refl _
    · split
      · rw [renameP_calls]; exact Nat.le_refl _
      · split
        · rw [deleteP_calls]; exact Nat.le_refl _
        · omega
theorem opsP_calls : ∀ (l : List OpM) (d : Dd), (opsP d l).calls ≤ d.calls + l.length
  | [], d => Nat.le_refl _
  | o :: l, d => by
    have h1 := opsP_calls l (op1 d o)
    have h2 := op1_calls d o
    simp only [opsP, List.foldl_cons, List.length_cons] at h1 ⊢
    omega
theorem op1_V {d : Dd} (h : d.V) (o : OpM) : (op1 d o).V := by
  unfold op1
  split
  · exact h.appendP ..
  · split
    · exact h.cutP ..
    · split
      · exact h.renameP ..
      · split
        · exact h.deleteP ..
        · exact h
theorem opsP_V : ∀ (l : List OpM) {d : Dd}, d.V → (opsP d l).V
  | [], _, h => h
  | o :: l, d, h => opsP_V l (op1_V h o)
theorem opsP_succ {l : List OpM} {i : Nat} {o : OpM} (h : l[i]? = some o) (d : Dd) : opsP d (l.take (i + 1)) = op1 (opsP d (l.take i)) o := by
  rw [List.take_add_one, h]
  simp [opsP]
/-- does a call do something? -/
def pendsP (d : Dd) (o : OpM) : Bool :=
  if o.kind = 2 then decide ((d.appendP o.name o.bytes).2 = 0) && (decide (0 < o.bytes.length) || !(getK o.name d.now).isSome)
  else if o.kind = 3 then decide ((d.cutP o.name o.a).2 = 0) && decide (o.a < (gt o.name d.now).length)
  else if o.kind = 4 then decide ((d.renameP o.name o.to).2 = 0) && decide (o.name ≠ o.to)
  else if o.kind = 5 then decide ((d.deleteP o.name).2 = 0) else false
section
variable {P : Program} {w0 W : World} {G : Nat → Prop} {l R R1 : List As} {zs : Zs} {v : Value} {x : Txt} {KW : Value → World → Prop}
theorem St.plAddR (k : PoolK) {cs : List Value} {n : Nat} [i : Has l v (Rd 1 n cs) R1] [j : Has R1 k (Pl zs) R] (h : St w0 G l W) (hn : n = x.length) (hc : cs = bytesV x) : St w0 G (Ky k (Pl ((v, x) :: zs)) :: R) W := by
  subst hn; subst hc
  obtain ⟨F0, hF0, hG0⟩ := h.own
  obtain ⟨F1, F2, h1, h2, hd, hF⟩ := i.to F0 W hF0
  obtain ⟨F3, F4, h3, h4, hd', hF'⟩ := j.to F2 W h2
  have h1' : (Rd 1 x.length (bytesV x) v).p F1 W := h1
  refine { h with own := ⟨fun b => (F1 b ∨ F3 b) ∨ F4 b, ⟨fun b => F1 b ∨ F3 b, F4, ⟨fun b => ?_, ?_⟩, h4, ?_, fun _ => Iff.rfl⟩, fun b hb => hG0 b ?_⟩ }
  · have e3 := h3.1 b
    have e1 := h1'.1 b
    constructor
    · rintro (a | a)
      · have := e1.1 a
        exact ⟨(v, x), List.mem_cons_self, this.1, fun hx => this.2 (by have hx' : x = [] := hx; rw [hx']; rfl)⟩
      · obtain ⟨z, hz, h5⟩ := e3.1 a
        exact ⟨z, List.mem_cons_of_mem _ hz, h5⟩
    · rintro ⟨z, hz, h5, h6⟩
      rcases List.mem_cons.1 hz with rfl | hz
      · exact .inl (e1.2 ⟨h5, fun hx => h6 (by simpa [bytesV] using hx)⟩)
      · exact .inr (e3.2 ⟨z, hz, h5, h6⟩)
  · intro z hz
    rcases List.mem_cons.1 hz with rfl | hz
    · exact h1'.2
    · exact h3.2 z hz
  · rintro b (a | a) c
    · exact hd b a ((hF' b).2 (.inr c))
    · exact hd' b a c
  · rw [hF b, hF' b]
    rcases hb with (hb | hb) | hb
    · exact .inl hb
    · exact .inr (.inl hb)
    · exact .inr (.inr hb)
/-- bytes written out, converted: kept as they are -/
theorem St.markB {t e : TypeId} {n : Nat} {cs : List Value} [i : Has l v (Ow e 1 n cs) R] [U : Und P t (.slice e)] [U1 : Und P e (.int .u8)] (h : St w0 G l W) (hn : n ≠ 0) (k : ∀ W', St w0 G (Ky v (Rd 1 n cs) :: R) W' → KW v W') : RunV P (convert t t v) W KW := by
  rcases h.openOw (v := v) with ⟨_, h0, _⟩ | ⟨g, cap, cur, rfl, hnc, hcm, hcl, htk, h⟩
  · exact absurd h0 hn
  have hg := h.ob (b := g) (o := .cells cur.toArray e (0, 0))
  have hgl := (Array.getElem?_eq_some_iff.1 hg).1
  have hfz : (W.freeze ⟨g, cur.toArray.size, none⟩ 1).heap[g]? = some (.cells cur.toArray e (cur.toArray.size, cur.toArray.size + 1)) := by
    unfold World.freeze
    simp [Array.getElem?_modify, hg]
  have hrun : (convert t t (.slice (some ⟨g, 0, none⟩) n cap)).run P W = .ok (.slice (some ⟨g, 0, none⟩) n cap) (W.freeze ⟨g, cur.toArray.size, none⟩ 1) := by
    simp only [convert, Sem.run_bind, run_underlying U.eq, Result.andThen, beq_self_eq_true, run_underlying U1.eq]
    have hsh : W.shape? g = some (e, cur.toArray.size) := by simp [World.shape?, hg]
    simp [markStringish, shape, freeze, Sem.run, hsh, Result.andThen]
  refine .of hrun (k _ ?_)
  have hmod : Mod [g] W (W.freeze ⟨g, cur.toArray.size, none⟩ 1) := by
    unfold World.freeze
    exact ⟨rfl, rfl, rfl, by simp, fun k _ hk => by
      simp only [Nat.one_ne_zero, if_false, Array.getElem?_modify]
      rw [if_neg (fun e => hk (by simp [e]))]⟩
  have h2 := h.setB (b := g) (o := .cells cur.toArray e (0, 0)) hmod hfz
  refine h2.conv fun F hF => ?_
  have hF' : (∀ x, F x ↔ x = g) ∧ (W.freeze ⟨g, cur.toArray.size, none⟩ 1).heap[g]? = some (.cells cur.toArray e (cur.toArray.size, cur.toArray.size + 1)) := hF
  have hcs : cs ≠ [] := by
    intro hx
    rw [hx] at htk
    have := congrArg List.length htk
    rw [List.length_take, hcl] at this
    simp at this; omega
  refine ⟨fun x => ?_, some ⟨g, 0, none⟩, cap, rfl, hnc, ?_, fun j u hj => ⟨g, 0, rfl, ?_⟩, by simp⟩
  · rw [hF'.1 x]
    simp [Value.ownBlock, hcs, eq_comm]
  · rw [← htk, List.length_take, hcl]
    exact Nat.min_eq_left (Nat.mul_le_mul_right _ hnc)
  · rw [← htk, List.getElem?_take] at hj
    split at hj
    · unfold World.cell?
      rw [hF'.2]
      simp [hj]
    · cases hj
end
end Go.Ez
namespace Go.Proofs.Ytdoopdbfajgnjaa
open Go Go.Ez Go.RowKit
set_option linter.unusedSimpArgs false
set_option linter.unusedVariables false
section
variable {w0 W : World} {l R R1 R2 R3 : List As} {zs zs' : Zs} {d : Dd} {v : Value} {RR : Value → World → Prop}
theorem opC_get {l : List OpM} {i j : Nat} {o : OpM} (h : l[i]? = some o) (hj : j < 7) : (rcells opC l)[i * 7 + j]? = (opC o)[j]? := rc_get (f := opC) (sz := 7) (fun _ => rfl) h hj
/-- does -/
theorem ldoes_spec {ops : List OpM} {a : Value} [i : Has l v (Dk zs d) R1] [j : Has R1 PoolK.a (Pl zs) R] (h : St w0 G0 l W) (ha : Sl w0 7 a ops.length (rcells opC ops)) (hof : ∀ o ∈ ops, OpF w0 o) (hos : ∀ o ∈ ops, OpS o) (hc : d.calls + ops.length ≤ 1000000)
    (k : ∀ zs' W', (∀ z ∈ zs, z ∈ zs') → St w0 G0 (Ky v (Dk zs' (opsP d ops)) :: Ky PoolK.a (Pl zs') :: R) W' → RR (.tuple #[]) W') : CallF Try.prog 21 #[v, a] W RR := by
  refine sh21_calls ?_
  unfold sh21
  replace h := has2 (k := v) (k' := PoolK.a) h
  refine lpx (α := Nat) (fun i => [nV .i64 i]) (fun i W' => i ≤ ops.length ∧ ∃ zs', (∀ z ∈ zs, z ∈ zs') ∧ St w0 G0 (Ky v (Dk zs' (opsP d (ops.take i))) :: Ky PoolK.a (Pl zs') :: R) W') (fun i => ops.length - i) 0 (fun _ => rfl) rfl ⟨Nat.zero_le _, zs, fun _ h => h, h⟩ ?_
  rintro next i W hnext ⟨hi, zs1, hz1, h⟩
  refine app1 ?_
  have ha1 : ∀ {W' : World} {L : List As}, St w0 G0 L W' → Sl W' 7 a ops.length (rcells opC ops) := fun h => ha.below h.low
  refine x_lenS ha ?_
  refine a_lss (ifd (fun hlt => ?_) fun hlt => ?_)
  · have hil : i < ops.length := by omega
    obtain ⟨o, ho⟩ : ∃ o, ops[i]? = some o := ⟨_, List.getElem?_eq_getElem hil⟩
    have hom := List.mem_of_getElem? ho
    have hF := hof o hom
    have hS := hos o hom
    have h1 := hS.name
    have h2 := hS.to
    have h3 := hS.bytes
    have hsu := opsP_succ ho d
    have hcl := opsP_calls (ops.take i) d
    rw [List.length_take] at hcl
    generalize opsP d (ops.take i) = d1 at *
    generalize hd2 : opsP d (ops.take (i + 1)) = d2 at hsu
    unfold op1 at hsu
    refine x_fld (ha1 h) hil (off := 0) (by decide) ((opC_get ho (by decide)).trans rfl) ?_
    refine jni (fun vs W' => vs = [v, a, nV .i64 i] ∧ ∃ zs', (∀ z ∈ zs, z ∈ zs') ∧ St w0 G0 (Ky v (Dk zs' d2) :: Ky PoolK.a (Pl zs') :: R) W') ?_ ?_
    · rintro vs W2 _ ⟨rfl, zs2, hz2, h⟩
      refine app3 ?_
      refine a_add64 (by omega) (by omega) ?_
      rw [show ((i : Int) + 1) = ((i + 1 : Nat) : Int) by push_cast; rfl]
      exact ⟨rfl, rfl, hnext (i + 1) W2 (by omega) ⟨by omega, zs2, hz2, by rw [hd2]; exact h⟩⟩
    refine w_eql (ifd (fun hk => ?_) fun hk => ?_)
    · rw [if_pos hk] at hsu
      subst hsu
      refine ⟨fun w => Below w0.heap.size w0 w, h.drew.low, ?_⟩
      refine x_sfld ha (fun w hw => ha.below hw) hil (off := 3) (by decide) ((opC_get ho (by decide)).trans rfl) ?_
      refine x_sfld ha (fun w hw => ha.below hw) hil (off := 5) (by decide) ((opC_get ho (by decide)).trans rfl) ?_
      refine append_spec (v := v) h.drew (by omega) (by omega) (Arg.old hF.bytes) (by omega) fun zs2 W hz2 h => ?_
      exact ⟨rfl, zs2, fun z hz => hz2 z (hz1 z hz), h⟩
    rw [if_neg hk] at hsu
    refine jni (fun vs W' => vs = [v, a, nV .i64 i] ∧ ∃ zs', (∀ z ∈ zs, z ∈ zs') ∧ St w0 G0 (Ky v (Dk zs' d2) :: Ky PoolK.a (Pl zs') :: R) W') ?_ ?_
    · rintro vs W2 _ ⟨rfl, h⟩
      exact app3 ⟨rfl, h⟩
    refine w_eql (ifd (fun hk => ?_) fun hk => ?_)
    · rw [if_pos hk] at hsu
      subst hsu
      refine ⟨fun w => Below w0.heap.size w0 w, h.drew.low, ?_⟩
      refine x_sfld ha (fun w hw => ha.below hw) hil (off := 3) (by decide) ((opC_get ho (by decide)).trans rfl) ?_
      refine x_sfld ha (fun w hw => ha.below hw) hil (off := 1) (by decide) ((opC_get ho (by decide)).trans rfl) ?_
      refine cut_spec (v := v) h.drew (by omega) (by omega) fun zs2 W hz2 h => ?_
      exact ⟨rfl, zs2, fun z hz => hz2 z (hz1 z hz), h⟩
    rw [if_neg hk] at hsu
    refine jni (fun vs W' => vs = [v, a, nV .i64 i] ∧ ∃ zs', (∀ z ∈ zs, z ∈ zs') ∧ St w0 G0 (Ky v (Dk zs' d2) :: Ky PoolK.a (Pl zs') :: R) W') ?_ ?_
    · rintro vs W2 _ ⟨rfl, h⟩
      exact app3 ⟨rfl, h⟩
    refine w_eql (ifd (fun hk => ?_) fun hk => ?_)
    · rw [if_pos hk] at hsu
      subst hsu
      refine ⟨fun w => Below w0.heap.size w0 w, h.drew.low, ?_⟩
      refine x_sfld ha (fun w hw => ha.below hw) hil (off := 3) (by decide) ((opC_get ho (by decide)).trans rfl) ?_
      refine x_sfld ha (fun w hw => ha.below hw) hil (off := 4) (by decide) ((opC_get ho (by decide)).trans rfl) ?_
      refine rename_spec (v := v) h.drew (by omega) (by omega) (by omega) fun zs2 W hz2 h => ?_
      exact ⟨rfl, zs2, fun z hz => hz2 z (hz1 z hz), h⟩
    rw [if_neg hk] at hsu
    refine jni (fun vs W' => vs = [v, a, nV .i64 i] ∧ ∃ zs', (∀ z ∈ zs, z ∈ zs') ∧ St w0 G0 (Ky v (Dk zs' d2) :: Ky PoolK.a (Pl zs') :: R) W') ?_ ?_
    · rintro vs W2 _ ⟨rfl, h⟩
      exact app3 ⟨rfl, h⟩
    refine w_eql (ifd (fun hk => ?_) fun hk => ?_)
    · rw [if_pos hk] at hsu
      subst hsu
      refine x_fld (ha1 h) hil (off := 3) (by decide) ((opC_get ho (by decide)).trans rfl) ?_
      refine delete_spec (v := v) h (by omega) (by omega) fun zs2 W hz2 h => ?_
      exact ⟨rfl, zs2, fun z hz => hz2 z (hz1 z hz), h⟩
    · rw [if_neg hk] at hsu
      subst hsu
      exact ⟨rfl, zs1, hz1, h⟩
  · obtain rfl : i = ops.length := by omega
    rw [List.take_length] at h
    exact k zs1 W hz1 h
/-- pends -/
theorem pends_spec {o : OpM} [i : Has l v (Dk zs d) R1] [j : Has R1 PoolK.a (Pl zs) R] (h : St w0 G0 l W) (hF : OpF w0 o) (hS : OpS o) (hc : d.calls ≤ 900000)
    (k : ∀ zs' W', (∀ z ∈ zs, z ∈ zs') → St w0 G0 (Ky v (Dk zs' d) :: Ky PoolK.a (Pl zs') :: R) W' → RR (.bool (pendsP d o)) W') : CallF Try.prog 27 #[v, .agg (opC o).toArray] W RR := by
  refine sh27_calls ?_
  unfold sh27
  replace h := has2 (k := v) (k' := PoolK.a) h
  have n1 := hS.name
  have n2 := hS.to
  have n3 := hS.bytes
  have hV := (dkV (v := v) h).1
  have htot := hV.now.tot
  have hgl := gt_le (k := o.name) hV.now.srt
  refine h.boxS (cs := opC o) fun bx W h => ?_
  refine copy_spec (v := v) h (by omega) fun bc W h => ?_
  unfold opC at h
  unfold pendsP at k
  (repeat (first | (with_reducible refine ift ?_) | (with_reducible refine iff' ?_) | (with_reducible refine a_lss ?_) | (with_reducible refine a_leq ?_) | (with_reducible refine a_gtr ?_) | (with_reducible refine a_geq ?_) | (with_reducible refine w_eql ?_) | (with_reducible refine w_neq ?_) | (with_reducible refine s_eql ?_) | (with_reducible refine s_neq ?_) | ((with_reducible refine a_add64 ?h0 ?h1 ?_); (case h0 => omega); (case h1 => omega);  skip) | ((with_reducible refine a_sub64 ?h0 ?h1 ?_); (case h0 => omega); (case h1 => omega);  skip) | ((with_reducible refine a_mul64 ?h0 ?h1 ?_); (case h0 => omega); (case h1 => omega);  skip) | (with_reducible refine a_notd ?_) | (with_reducible refine a_not ?_) | (with_reducible refine a_ext0 ?_) | (with_reducible refine a_ext1 ?_) | (with_reducible refine a_ext2 ?_) | (with_reducible refine x_len ?_) | (with_reducible refine x_lens ?_) | (with_reducible refine x_eqb ?_) | (with_reducible refine x_neb ?_) | (with_reducible refine x_nilP ?_) | (with_reducible refine x_nilPn ?_) | (with_reducible refine x_nilF ?_) | (with_reducible refine x_nilFF ?_) | (with_reducible refine w_eqlL ?_) | (with_reducible refine w_neqL ?_) | (with_reducible refine s_eqlL ?_) | (with_reducible refine ifnt ?_) | (with_reducible refine ifnf ?_) | (with_reducible refine x_eqB ?_) | (with_reducible refine x_neB ?_) | (with_reducible refine x_lssL ?_) | (with_reducible refine x_gtrL ?_) | (with_reducible refine x_geqL ?_) | (with_reducible refine s_neqL ?_) | (with_reducible refine St.load h ?_) | (with_reducible refine St.loadS h ?_) | (with_reducible refine a_fld0 ?_) | (with_reducible refine St.store h fun W h => ?_) | (with_reducible refine St.storeS h fun W h => ?_) | (with_reducible refine St.alloc h fun b W h => ?_) | (with_reducible refine St.allocS h fun b W h => ?_) | (with_reducible refine a_nil ?_) | (with_reducible refine ss_load ?_) | (with_reducible refine ss_loadS ?_) | (with_reducible refine ss_eqb ?_)))
  refine iff' ?_
  (repeat (first | (with_reducible refine ift ?_) | (with_reducible refine iff' ?_) | (with_reducible refine a_lss ?_) | (with_reducible refine a_leq ?_) | (with_reducible refine a_gtr ?_) | (with_reducible refine a_geq ?_) | (with_reducible refine w_eql ?_) | (with_reducible refine w_neq ?_) | (with_reducible refine s_eql ?_) | (with_reducible refine s_neq ?_) | ((with_reducible refine a_add64 ?h0 ?h1 ?_); (case h0 => omega); (case h1 => omega);  skip) | ((with_reducible refine a_sub64 ?h0 ?h1 ?_); (case h0 => omega); (case h1 => omega);  skip) | ((with_reducible refine a_mul64 ?h0 ?h1 ?_); (case h0 => omega); (case h1 => omega);  skip) | (with_reducible refine a_notd ?_) | (with_reducible refine a_not ?_) | (with_reducible refine a_ext0 ?_) | (with_reducible refine a_ext1 ?_) | (with_reducible refine a_ext2 ?_) | (with_reducible refine x_len ?_) | (with_reducible refine x_lens ?_) | (with_reducible refine x_eqb ?_) | (with_reducible refine x_neb ?_) | (with_reducible refine x_nilP ?_) | (with_reducible refine x_nilPn ?_) | (with_reducible refine x_nilF ?_) | (with_reducible refine x_nilFF ?_) | (with_reducible refine w_eqlL ?_) | (with_reducible refine w_neqL ?_) | (with_reducible refine s_eqlL ?_) | (with_reducible refine ifnt ?_) | (with_reducible refine ifnf ?_) | (with_reducible refine x_eqB ?_) | (with_reducible refine x_neB ?_) | (with_reducible refine x_lssL ?_) | (with_reducible refine x_gtrL ?_) | (with_reducible refine x_geqL ?_) | (with_reducible refine s_neqL ?_) | (with_reducible refine St.load h ?_) | (with_reducible refine St.loadS h ?_) | (with_reducible refine a_fld0 ?_) | (with_reducible refine St.store h fun W h => ?_) | (with_reducible refine St.storeS h fun W h => ?_) | (with_reducible refine St.alloc h fun b W h => ?_) | (with_reducible refine St.allocS h fun b W h => ?_) | (with_reducible refine a_nil ?_) | (with_reducible refine ss_load ?_) | (with_reducible refine ss_loadS ?_) | (with_reducible refine ss_eqb ?_)))
  refine peek_spec (s := o.name) (freezeD (v := (.pointer (some ⟨bc, 0, none⟩) : Value)) h) fun x W2 ox h2 => ?_
  replace h := h.frame1 h2
  clear h2
  (repeat (first | (with_reducible refine ift ?_) | (with_reducible refine iff' ?_) | (with_reducible refine a_lss ?_) | (with_reducible refine a_leq ?_) | (with_reducible refine a_gtr ?_) | (with_reducible refine a_geq ?_) | (with_reducible refine w_eql ?_) | (with_reducible refine w_neq ?_) | (with_reducible refine s_eql ?_) | (with_reducible refine s_neq ?_) | ((with_reducible refine a_add64 ?h0 ?h1 ?_); (case h0 => omega); (case h1 => omega);  skip) | ((with_reducible refine a_sub64 ?h0 ?h1 ?_); (case h0 => omega); (case h1 => omega);  skip) | ((with_reducible refine a_mul64 ?h0 ?h1 ?_); (case h0 => omega); (case h1 => omega);  skip) | (with_reducible refine a_notd ?_) | (with_reducible refine a_not ?_) | (with_reducible refine a_ext0 ?_) | (with_reducible refine a_ext1 ?_) | (with_reducible refine a_ext2 ?_) | (with_reducible refine x_len ?_) | (with_reducible refine x_lens ?_) | (with_reducible refine x_eqb ?_) | (with_reducible refine x_neb ?_) | (with_reducible refine x_nilP ?_) | (with_reducible refine x_nilPn ?_) | (with_reducible refine x_nilF ?_) | (with_reducible refine x_nilFF ?_) | (with_reducible refine w_eqlL ?_) | (with_reducible refine w_neqL ?_) | (with_reducible refine s_eqlL ?_) | (with_reducible refine ifnt ?_) | (with_reducible refine ifnf ?_) | (with_reducible refine x_eqB ?_) | (with_reducible refine x_neB ?_) | (with_reducible refine x_lssL ?_) | (with_reducible refine x_gtrL ?_) | (with_reducible refine x_geqL ?_) | (with_reducible refine s_neqL ?_) | (with_reducible refine St.load h ?_) | (with_reducible refine St.loadS h ?_) | (with_reducible refine a_fld0 ?_) | (with_reducible refine St.store h fun W h => ?_) | (with_reducible refine St.storeS h fun W h => ?_) | (with_reducible refine St.alloc h fun b W h => ?_) | (with_reducible refine St.allocS h fun b W h => ?_) | (with_reducible refine a_nil ?_) | (with_reducible refine ss_load ?_) | (with_reducible refine ss_loadS ?_) | (with_reducible refine ss_eqb ?_)))
  refine ifd (fun hk => ?_) fun hk => ?_
  · rw [if_pos hk] at k
    (repeat (first | (with_reducible refine ift ?_) | (with_reducible refine iff' ?_) | (with_reducible refine a_lss ?_) | (with_reducible refine a_leq ?_) | (with_reducible refine a_gtr ?_) | (with_reducible refine a_geq ?_) | (with_reducible refine w_eql ?_) | (with_reducible refine w_neq ?_) | (with_reducible refine s_eql ?_) | (with_reducible refine s_neq ?_) | ((with_reducible refine a_add64 ?h0 ?h1 ?_); (case h0 => omega); (case h1 => omega);  skip) | ((with_reducible refine a_sub64 ?h0 ?h1 ?_); (case h0 => omega); (case h1 => omega);  skip) | ((with_reducible refine a_mul64 ?h0 ?h1 ?_); (case h0 => omega); (case h1 => omega);  skip) | (with_reducible refine a_notd ?_) | (with_reducible refine a_not ?_) | (with_reducible refine a_ext0 ?_) | (with_reducible refine a_ext1 ?_) | (with_reducible refine a_ext2 ?_) | (with_reducible refine x_len ?_) | (with_reducible refine x_lens ?_) | (with_reducible refine x_eqb ?_) | (with_reducible refine x_neb ?_) | (with_reducible refine x_nilP ?_) | (with_reducible refine x_nilPn ?_) | (with_reducible refine x_nilF ?_) | (with_reducible refine x_nilFF ?_) | (with_reducible refine w_eqlL ?_) | (with_reducible refine w_neqL ?_) | (with_reducible refine s_eqlL ?_) | (with_reducible refine ifnt ?_) | (with_reducible refine ifnf ?_) | (with_reducible refine x_eqB ?_) | (with_reducible refine x_neB ?_) | (with_reducible refine x_lssL ?_) | (with_reducible refine x_gtrL ?_) | (with_reducible refine x_geqL ?_) | (with_reducible refine s_neqL ?_) | (with_reducible refine St.load h ?_) | (with_reducible refine St.loadS h ?_) | (with_reducible refine a_fld0 ?_) | (with_reducible refine St.store h fun W h => ?_) | (with_reducible refine St.storeS h fun W h => ?_) | (with_reducible refine St.alloc h fun b W h => ?_) | (with_reducible refine St.allocS h fun b W h => ?_) | (with_reducible refine a_nil ?_) | (with_reducible refine ss_load ?_) | (with_reducible refine ss_loadS ?_) | (with_reducible refine ss_eqb ?_)))
    refine append_spec (v := (.pointer (some ⟨bc, 0, none⟩) : Value)) h (by omega) (by omega) (Arg.old hF.bytes) (by omega) fun zs2 W hz2 h => ?_
    replace h := upD (v := v) h hz2
    refine w_eql (ifd (fun he => ?_) fun he => ?_)
    · rw [decide_eq_true he, Bool.true_and] at k
      (repeat (first | (with_reducible refine ift ?_) | (with_reducible refine iff' ?_) | (with_reducible refine a_lss ?_) | (with_reducible refine a_leq ?_) | (with_reducible refine a_gtr ?_) | (with_reducible refine a_geq ?_) | (with_reducible refine w_eql ?_) | (with_reducible refine w_neq ?_) | (with_reducible refine s_eql ?_) | (with_reducible refine s_neq ?_) | ((with_reducible refine a_add64 ?h0 ?h1 ?_); (case h0 => omega); (case h1 => omega);  skip) | ((with_reducible refine a_sub64 ?h0 ?h1 ?_); (case h0 => omega); (case h1 => omega);  skip) | ((with_reducible refine a_mul64 ?h0 ?h1 ?_); (case h0 => omega); (case h1 => omega);  skip) | (with_reducible refine a_notd ?_) | (with_reducible refine a_not ?_) | (with_reducible refine a_ext0 ?_) | (with_reducible refine a_ext1 ?_) | (with_reducible refine a_ext2 ?_) | (with_reducible refine x_len ?_) | (with_reducible refine x_lens ?_) | (with_reducible refine x_eqb ?_) | (with_reducible refine x_neb ?_) | (with_reducible refine x_nilP ?_) | (with_reducible refine x_nilPn ?_) | (with_reducible refine x_nilF ?_) | (with_reducible refine x_nilFF ?_) | (with_reducible refine w_eqlL ?_) | (with_reducible refine w_neqL ?_) | (with_reducible refine s_eqlL ?_) | (with_reducible refine ifnt ?_) | (with_reducible refine ifnf ?_) | (with_reducible refine x_eqB ?_) | (with_reducible refine x_neB ?_) | (with_reducible refine x_lssL ?_) | (with_reducible refine x_gtrL ?_) | (with_reducible refine x_geqL ?_) | (with_reducible refine s_neqL ?_) | (with_reducible refine St.load h ?_) | (with_reducible refine St.loadS h ?_) | (with_reducible refine a_fld0 ?_) | (with_reducible refine St.store h fun W h => ?_) | (with_reducible refine St.storeS h fun W h => ?_) | (with_reducible refine St.alloc h fun b W h => ?_) | (with_reducible refine St.allocS h fun b W h => ?_) | (with_reducible refine a_nil ?_) | (with_reducible refine ss_load ?_) | (with_reducible refine ss_loadS ?_) | (with_reducible refine ss_eqb ?_)))
      refine x_lenS (hF.bytes) ?_
      refine a_gtr (ifd (fun h0 => ?_) fun h0 => ?_)
      · rw [decide_eq_true (by omega), Bool.true_or] at k
        exact k zs2 W hz2 h.to
      · rw [decide_eq_false (by omega), Bool.false_or] at k
        refine a_not ?_
        exact k zs2 W hz2 h.to
    · rw [decide_eq_false he, Bool.false_and] at k
      exact k zs2 W hz2 h.to
  rw [if_neg hk] at k
  (repeat (first | (with_reducible refine ift ?_) | (with_reducible refine iff' ?_) | (with_reducible refine a_lss ?_) | (with_reducible refine a_leq ?_) | (with_reducible refine a_gtr ?_) | (with_reducible refine a_geq ?_) | (with_reducible refine w_eql ?_) | (with_reducible refine w_neq ?_) | (with_reducible refine s_eql ?_) | (with_reducible refine s_neq ?_) | ((with_reducible refine a_add64 ?h0 ?h1 ?_); (case h0 => omega); (case h1 => omega);  skip) | ((with_reducible refine a_sub64 ?h0 ?h1 ?_); (case h0 => omega); (case h1 => omega);  skip) | ((with_reducible refine a_mul64 ?h0 ?h1 ?_); (case h0 => omega); (case h1 => omega);  skip) | (with_reducible refine a_notd ?_) | (with_reducible refine a_not ?_) | (with_reducible refine a_ext0 ?_) | (with_reducible refine a_ext1 ?_) | (with_reducible refine a_ext2 ?_) | (with_reducible refine x_len ?_) | (with_reducible refine x_lens ?_) | (with_reducible refine x_eqb ?_) | (with_reducible refine x_neb ?_) | (with_reducible refine x_nilP ?_) | (with_reducible refine x_nilPn ?_) | (with_reducible refine x_nilF ?_) | (with_reducible refine x_nilFF ?_) | (with_reducible refine w_eqlL ?_) | (with_reducible refine w_neqL ?_) | (with_reducible refine s_eqlL ?_) | (with_reducible refine ifnt ?_) | (with_reducible refine ifnf ?_) | (with_reducible refine x_eqB ?_) | (with_reducible refine x_neB ?_) | (with_reducible refine x_lssL ?_) | (with_reducible refine x_gtrL ?_) | (with_reducible refine x_geqL ?_) | (with_reducible refine s_neqL ?_) | (with_reducible refine St.load h ?_) | (with_reducible refine St.loadS h ?_) | (with_reducible refine a_fld0 ?_) | (with_reducible refine St.store h fun W h => ?_) | (with_reducible refine St.storeS h fun W h => ?_) | (with_reducible refine St.alloc h fun b W h => ?_) | (with_reducible refine St.allocS h fun b W h => ?_) | (with_reducible refine a_nil ?_) | (with_reducible refine ss_load ?_) | (with_reducible refine ss_loadS ?_) | (with_reducible refine ss_eqb ?_)))
  refine ifd (fun hk => ?_) fun hk => ?_
  · rw [if_pos hk] at k
    (repeat (first | (with_reducible refine ift ?_) | (with_reducible refine iff' ?_) | (with_reducible refine a_lss ?_) | (with_reducible refine a_leq ?_) | (with_reducible refine a_gtr ?_) | (with_reducible refine a_geq ?_) | (with_reducible refine w_eql ?_) | (with_reducible refine w_neq ?_) | (with_reducible refine s_eql ?_) | (with_reducible refine s_neq ?_) | ((with_reducible refine a_add64 ?h0 ?h1 ?_); (case h0 => omega); (case h1 => omega);  skip) | ((with_reducible refine a_sub64 ?h0 ?h1 ?_); (case h0 => omega); (case h1 => omega);  skip) | ((with_reducible refine a_mul64 ?h0 ?h1 ?_); (case h0 => omega); (case h1 => omega);  skip) | (with_reducible refine a_notd ?_) | (with_reducible refine a_not ?_) | (with_reducible refine a_ext0 ?_) | (with_reducible refine a_ext1 ?_) | (with_reducible refine a_ext2 ?_) | (with_reducible refine x_len ?_) | (with_reducible refine x_lens ?_) | (with_reducible refine x_eqb ?_) | (with_reducible refine x_neb ?_) | (with_reducible refine x_nilP ?_) | (with_reducible refine x_nilPn ?_) | (with_reducible refine x_nilF ?_) | (with_reducible refine x_nilFF ?_) | (with_reducible refine w_eqlL ?_) | (with_reducible refine w_neqL ?_) | (with_reducible refine s_eqlL ?_) | (with_reducible refine ifnt ?_) | (with_reducible refine ifnf ?_) | (with_reducible refine x_eqB ?_) | (with_reducible refine x_neB ?_) | (with_reducible refine x_lssL ?_) | (with_reducible refine x_gtrL ?_) | (with_reducible refine x_geqL ?_) | (with_reducible refine s_neqL ?_) | (with_reducible refine St.load h ?_) | (with_reducible refine St.loadS h ?_) | (with_reducible refine a_fld0 ?_) | (with_reducible refine St.store h fun W h => ?_) | (with_reducible refine St.storeS h fun W h => ?_) | (with_reducible refine St.alloc h fun b W h => ?_) | (with_reducible refine St.allocS h fun b W h => ?_) | (with_reducible refine a_nil ?_) | (with_reducible refine ss_load ?_) | (with_reducible refine ss_loadS ?_) | (with_reducible refine ss_eqb ?_)))
    refine cut_spec (v := (.pointer (some ⟨bc, 0, none⟩) : Value)) h (by omega) (by omega) fun zs2 W hz2 h => ?_
    replace h := upD (v := v) h hz2
    refine w_eql (ifd (fun he => ?_) fun he => ?_)
    · rw [decide_eq_true he, Bool.true_and] at k
      (repeat (first | (with_reducible refine ift ?_) | (with_reducible refine iff' ?_) | (with_reducible refine a_lss ?_) | (with_reducible refine a_leq ?_) | (with_reducible refine a_gtr ?_) | (with_reducible refine a_geq ?_) | (with_reducible refine w_eql ?_) | (with_reducible refine w_neq ?_) | (with_reducible refine s_eql ?_) | (with_reducible refine s_neq ?_) | ((with_reducible refine a_add64 ?h0 ?h1 ?_); (case h0 => omega); (case h1 => omega);  skip) | ((with_reducible refine a_sub64 ?h0 ?h1 ?_); (case h0 => omega); (case h1 => omega);  skip) | ((with_reducible refine a_mul64 ?h0 ?h1 ?_); (case h0 => omega); (case h1 => omega);  skip) | (with_reducible refine a_notd ?_) | (with_reducible refine a_not ?_) | (with_reducible refine a_ext0 ?_) | (with_reducible refine a_ext1 ?_) | (with_reducible refine a_ext2 ?_) | (with_reducible refine x_len ?_) | (with_reducible refine x_lens ?_) | (with_reducible refine x_eqb ?_) | (with_reducible refine x_neb ?_) | (with_reducible refine x_nilP ?_) | (with_reducible refine x_nilPn ?_) | (with_reducible refine x_nilF ?_) | (with_reducible refine x_nilFF ?_) | (with_reducible refine w_eqlL ?_) | (with_reducible refine w_neqL ?_) | (with_reducible refine s_eqlL ?_) | (with_reducible refine ifnt ?_) | (with_reducible refine ifnf ?_) | (with_reducible refine x_eqB ?_) | (with_reducible refine x_neB ?_) | (with_reducible refine x_lssL ?_) | (with_reducible refine x_gtrL ?_) | (with_reducible refine x_geqL ?_) | (with_reducible refine s_neqL ?_) | (with_reducible refine St.load h ?_) | (with_reducible refine St.loadS h ?_) | (with_reducible refine a_fld0 ?_) | (with_reducible refine St.store h fun W h => ?_) | (with_reducible refine St.storeS h fun W h => ?_) | (with_reducible refine St.alloc h fun b W h => ?_) | (with_reducible refine St.allocS h fun b W h => ?_) | (with_reducible refine a_nil ?_) | (with_reducible refine ss_load ?_) | (with_reducible refine ss_loadS ?_) | (with_reducible refine ss_eqb ?_)))
      refine x_lenS (h.osl (v := x)) ?_
      refine a_lss ?_
      exact k zs2 W hz2 h.to
    · rw [decide_eq_false he, Bool.false_and] at k
      exact k zs2 W hz2 h.to
  rw [if_neg hk] at k
  (repeat (first | (with_reducible refine ift ?_) | (with_reducible refine iff' ?_) | (with_reducible refine a_lss ?_) | (with_reducible refine a_leq ?_) | (with_reducible refine a_gtr ?_) | (with_reducible refine a_geq ?_) | (with_reducible refine w_eql ?_) | (with_reducible refine w_neq ?_) | (with_reducible refine s_eql ?_) | (with_reducible refine s_neq ?_) | ((with_reducible refine a_add64 ?h0 ?h1 ?_); (case h0 => omega); (case h1 => omega);  skip) | ((with_reducible refine a_sub64 ?h0 ?h1 ?_); (case h0 => omega); (case h1 => omega);  skip) | ((with_reducible refine a_mul64 ?h0 ?h1 ?_); (case h0 => omega); (case h1 => omega);  skip) | (with_reducible refine a_notd ?_) | (with_reducible refine a_not ?_) | (with_reducible refine a_ext0 ?_) | (with_reducible refine a_ext1 ?_) | (with_reducible refine a_ext2 ?_) | (with_reducible refine x_len ?_) | (with_reducible refine x_lens ?_) | (with_reducible refine x_eqb ?_) | (with_reducible refine x_neb ?_) | (with_reducible refine x_nilP ?_) | (with_reducible refine x_nilPn ?_) | (with_reducible refine x_nilF ?_) | (with_reducible refine x_nilFF ?_) | (with_reducible refine w_eqlL ?_) | (with_reducible refine w_neqL ?_) | (with_reducible refine s_eqlL ?_) | (with_reducible refine ifnt ?_) | (with_reducible refine ifnf ?_) | (with_reducible refine x_eqB ?_) | (with_reducible refine x_neB ?_) | (with_reducible refine x_lssL ?_) | (with_reducible refine x_gtrL ?_) | (with_reducible refine x_geqL ?_) | (with_reducible refine s_neqL ?_) | (with_reducible refine St.load h ?_) | (with_reducible refine St.loadS h ?_) | (with_reducible refine a_fld0 ?_) | (with_reducible refine St.store h fun W h => ?_) | (with_reducible refine St.storeS h fun W h => ?_) | (with_reducible refine St.alloc h fun b W h => ?_) | (with_reducible refine St.allocS h fun b W h => ?_) | (with_reducible refine a_nil ?_) | (with_reducible refine ss_load ?_) | (with_reducible refine ss_loadS ?_) | (with_reducible refine ss_eqb ?_)))
  refine ifd (fun hk => ?_) fun hk => ?_
  · rw [if_pos hk] at k
    (repeat (first | (with_reducible refine ift ?_) | (with_reducible refine iff' ?_) | (with_reducible refine a_lss ?_) | (with_reducible refine a_leq ?_) | (with_reducible refine a_gtr ?_) | (with_reducible refine a_geq ?_) | (with_reducible refine w_eql ?_) | (with_reducible refine w_neq ?_) | (with_reducible refine s_eql ?_) | (with_reducible refine s_neq ?_) | ((with_reducible refine a_add64 ?h0 ?h1 ?_); (case h0 => omega); (case h1 => omega);  skip) | ((with_reducible refine a_sub64 ?h0 ?h1 ?_); (case h0 => omega); (case h1 => omega);  skip) | ((with_reducible refine a_mul64 ?h0 ?h1 ?_); (case h0 => omega); (case h1 => omega);  skip) | (with_reducible refine a_notd ?_) | (with_reducible refine a_not ?_) | (with_reducible refine a_ext0 ?_) | (with_reducible refine a_ext1 ?_) | (with_reducible refine a_ext2 ?_) | (with_reducible refine x_len ?_) | (with_reducible refine x_lens ?_) | (with_reducible refine x_eqb ?_) | (with_reducible refine x_neb ?_) | (with_reducible refine x_nilP ?_) | (with_reducible refine x_nilPn ?_) | (with_reducible refine x_nilF ?_) | (with_reducible refine x_nilFF ?_) | (with_reducible refine w_eqlL ?_) | (with_reducible refine w_neqL ?_) | (with_reducible refine s_eqlL ?_) | (with_reducible refine ifnt ?_) | (with_reducible refine ifnf ?_) | (with_reducible refine x_eqB ?_) | (with_reducible refine x_neB ?_) | (with_reducible refine x_lssL ?_) | (with_reducible refine x_gtrL ?_) | (with_reducible refine x_geqL ?_) | (with_reducible refine s_neqL ?_) | (with_reducible refine St.load h ?_) | (with_reducible refine St.loadS h ?_) | (with_reducible refine a_fld0 ?_) | (with_reducible refine St.store h fun W h => ?_) | (with_reducible refine St.storeS h fun W h => ?_) | (with_reducible refine St.alloc h fun b W h => ?_) | (with_reducible refine St.allocS h fun b W h => ?_) | (with_reducible refine a_nil ?_) | (with_reducible refine ss_load ?_) | (with_reducible refine ss_loadS ?_) | (with_reducible refine ss_eqb ?_)))
    refine rename_spec (v := (.pointer (some ⟨bc, 0, none⟩) : Value)) h (by omega) (by omega) (by omega) fun zs2 W hz2 h => ?_
    replace h := upD (v := v) h hz2
    refine w_eql (ifd (fun he => ?_) fun he => ?_)
    · rw [decide_eq_true he, Bool.true_and] at k
      (repeat (first | (with_reducible refine ift ?_) | (with_reducible refine iff' ?_) | (with_reducible refine a_lss ?_) | (with_reducible refine a_leq ?_) | (with_reducible refine a_gtr ?_) | (with_reducible refine a_geq ?_) | (with_reducible refine w_eql ?_) | (with_reducible refine w_neq ?_) | (with_reducible refine s_eql ?_) | (with_reducible refine s_neq ?_) | ((with_reducible refine a_add64 ?h0 ?h1 ?_); (case h0 => omega); (case h1 => omega);  skip) | ((with_reducible refine a_sub64 ?h0 ?h1 ?_); (case h0 => omega); (case h1 => omega);  skip) | ((with_reducible refine a_mul64 ?h0 ?h1 ?_); (case h0 => omega); (case h1 => omega);  skip) | (with_reducible refine a_notd ?_) | (with_reducible refine a_not ?_) | (with_reducible refine a_ext0 ?_) | (with_reducible refine a_ext1 ?_) | (with_reducible refine a_ext2 ?_) | (with_reducible refine x_len ?_) | (with_reducible refine x_lens ?_) | (with_reducible refine x_eqb ?_) | (with_reducible refine x_neb ?_) | (with_reducible refine x_nilP ?_) | (with_reducible refine x_nilPn ?_) | (with_reducible refine x_nilF ?_) | (with_reducible refine x_nilFF ?_) | (with_reducible refine w_eqlL ?_) | (with_reducible refine w_neqL ?_) | (with_reducible refine s_eqlL ?_) | (with_reducible refine ifnt ?_) | (with_reducible refine ifnf ?_) | (with_reducible refine x_eqB ?_) | (with_reducible refine x_neB ?_) | (with_reducible refine x_lssL ?_) | (with_reducible refine x_gtrL ?_) | (with_reducible refine x_geqL ?_) | (with_reducible refine s_neqL ?_) | (with_reducible refine St.load h ?_) | (with_reducible refine St.loadS h ?_) | (with_reducible refine a_fld0 ?_) | (with_reducible refine St.store h fun W h => ?_) | (with_reducible refine St.storeS h fun W h => ?_) | (with_reducible refine St.alloc h fun b W h => ?_) | (with_reducible refine St.allocS h fun b W h => ?_) | (with_reducible refine a_nil ?_) | (with_reducible refine ss_load ?_) | (with_reducible refine ss_loadS ?_) | (with_reducible refine ss_eqb ?_)))
      exact k zs2 W hz2 h.to
    · rw [decide_eq_false he, Bool.false_and] at k
      exact k zs2 W hz2 h.to
  rw [if_neg hk] at k
  (repeat (first | (with_reducible refine ift ?_) | (with_reducible refine iff' ?_) | (with_reducible refine a_lss ?_) | (with_reducible refine a_leq ?_) | (with_reducible refine a_gtr ?_) | (with_reducible refine a_geq ?_) | (with_reducible refine w_eql ?_) | (with_reducible refine w_neq ?_) | (with_reducible refine s_eql ?_) | (with_reducible refine s_neq ?_) | ((with_reducible refine a_add64 ?h0 ?h1 ?_); (case h0 => omega); (case h1 => omega);  skip) | ((with_reducible refine a_sub64 ?h0 ?h1 ?_); (case h0 => omega); (case h1 => omega);  skip) | ((with_reducible refine a_mul64 ?h0 ?h1 ?_); (case h0 => omega); (case h1 => omega);  skip) | (with_reducible refine a_notd ?_) | (with_reducible refine a_not ?_) | (with_reducible refine a_ext0 ?_) | (with_reducible refine a_ext1 ?_) | (with_reducible refine a_ext2 ?_) | (with_reducible refine x_len ?_) | (with_reducible refine x_lens ?_) | (with_reducible refine x_eqb ?_) | (with_reducible refine x_neb ?_) | (with_reducible refine x_nilP ?_) | (with_reducible refine x_nilPn ?_) | (with_reducible refine x_nilF ?_) | (with_reducible refine x_nilFF ?_) | (with_reducible refine w_eqlL ?_) | (with_reducible refine w_neqL ?_) | (with_reducible refine s_eqlL ?_) | (with_reducible refine ifnt ?_) | (with_reducible refine ifnf ?_) | (with_reducible refine x_eqB ?_) | (with_reducible refine x_neB ?_) | (with_reducible refine x_lssL ?_) | (with_reducible refine x_gtrL ?_) | (with_reducible refine x_geqL ?_) | (with_reducible refine s_neqL ?_) | (with_reducible refine St.load h ?_) | (with_reducible refine St.loadS h ?_) | (with_reducible refine a_fld0 ?_) | (with_reducible refine St.store h fun W h => ?_) | (with_reducible refine St.storeS h fun W h => ?_) | (with_reducible refine St.alloc h fun b W h => ?_) | (with_reducible refine St.allocS h fun b W h => ?_) | (with_reducible refine a_nil ?_) | (with_reducible refine ss_load ?_) | (with_reducible refine ss_loadS ?_) | (with_reducible refine ss_eqb ?_)))
  refine ifd (fun hk => ?_) fun hk => ?_
  · rw [if_pos hk] at k
    (repeat (first | (with_reducible refine ift ?_) | (with_reducible refine iff' ?_) | (with_reducible refine a_lss ?_) | (with_reducible refine a_leq ?_) | (with_reducible refine a_gtr ?_) | (with_reducible refine a_geq ?_) | (with_reducible refine w_eql ?_) | (with_reducible refine w_neq ?_) | (with_reducible refine s_eql ?_) | (with_reducible refine s_neq ?_) | ((with_reducible refine a_add64 ?h0 ?h1 ?_); (case h0 => omega); (case h1 => omega);  skip) | ((with_reducible refine a_sub64 ?h0 ?h1 ?_); (case h0 => omega); (case h1 => omega);  skip) | ((with_reducible refine a_mul64 ?h0 ?h1 ?_); (case h0 => omega); (case h1 => omega);  skip) | (with_reducible refine a_notd ?_) | (with_reducible refine a_not ?_) | (with_reducible refine a_ext0 ?_) | (with_reducible refine a_ext1 ?_) | (with_reducible refine a_ext2 ?_) | (with_reducible refine x_len ?_) | (with_reducible refine x_lens ?_) | (with_reducible refine x_eqb ?_) | (with_reducible refine x_neb ?_) | (with_reducible refine x_nilP ?_) | (with_reducible refine x_nilPn ?_) | (with_reducible refine x_nilF ?_) | (with_reducible refine x_nilFF ?_) | (with_reducible refine w_eqlL ?_) | (with_reducible refine w_neqL ?_) | (with_reducible refine s_eqlL ?_) | (with_reducible refine ifnt ?_) | (with_reducible refine ifnf ?_) | (with_reducible refine x_eqB ?_) | (with_reducible refine x_neB ?_) | (with_reducible refine x_lssL ?_) | (with_reducible refine x_gtrL ?_) | (with_reducible refine x_geqL ?_) | (with_reducible refine s_neqL ?_) | (with_reducible refine St.load h ?_) | (with_reducible refine St.loadS h ?_) | (with_reducible refine a_fld0 ?_) | (with_reducible refine St.store h fun W h => ?_) | (with_reducible refine St.storeS h fun W h => ?_) | (with_reducible refine St.alloc h fun b W h => ?_) | (with_reducible refine St.allocS h fun b W h => ?_) | (with_reducible refine a_nil ?_) | (with_reducible refine ss_load ?_) | (with_reducible refine ss_loadS ?_) | (with_reducible refine ss_eqb ?_)))
    refine delete_spec (v := (.pointer (some ⟨bc, 0, none⟩) : Value)) h (by omega) (by omega) fun zs2 W hz2 h => ?_
    replace h := upD (v := v) h hz2
    refine w_eql ?_
    exact k zs2 W hz2 h.to
  · rw [if_neg hk] at k
    exact k zs _ (fun _ h => h) h.to
/-- Few -/
theorem few_spec {ops : List OpM} {a : Value} (ha : Sl W 7 a ops.length (rcells opC ops)) (hof : ∀ o ∈ ops, OpF W o) (k : ∀ b, (b = true → ops.length ≤ 200 ∧ ∀ o ∈ ops, OpS o) → RR (.bool b) W) : CallF Try.prog 9 #[a] W RR := by
  refine sh9_calls ?_
  unfold sh9
  refine jni (fun vs W' => vs = [a] ∧ W' = W ∧ (ops.length ≤ 200 → ∀ o ∈ ops, OpS o)) ?_ ?_
  · rintro vs W2 _ ⟨rfl, rfl, hq⟩
    refine app1 ?_
    refine x_lenS ha ?_
    refine a_leq ?_
    refine k _ fun hb => ?_
    have : ops.length ≤ 200 := by have := of_decide_eq_true hb; omega
    exact ⟨this, hq this⟩
  refine lpx (α := Nat × Nat) (fun p => [nV .i64 p.2, nV .i64 p.1]) (fun p W' => W' = W ∧ p.1 ≤ ops.length ∧ p.1 ≤ 200 ∧ p.2 ≤ 20000 ∧ ∀ o ∈ ops.take p.1, OpS o) (fun p => ops.length - p.1) (0, 0) (fun _ => rfl) rfl ⟨rfl, Nat.zero_le _, by decide, by decide, by simp⟩ ?_
  rintro next ⟨i, n⟩ W' hnext ⟨rfl, hi, hi2, hn, hall⟩
  refine app2 ?_
  refine x_lenS ha ?_
  refine a_lss (ifd (fun hlt => ?_) fun hlt => ?_)
  · refine a_lss (ifd (fun hlt2 => ?_) fun hlt2 => ?_)
    · have hil : i < ops.length := by simp only at hlt; omega
      obtain ⟨o, ho⟩ : ∃ o, ops[i]? = some o := ⟨_, List.getElem?_eq_getElem hil⟩
      have hF := hof o (List.mem_of_getElem? ho)
      refine x_fld ha hil (off := 5) (by decide) ((opC_get ho (by decide)).trans rfl) ?_
      refine x_lenS hF.bytes ?_
      refine w_min ?_
      have em : min ((o.bytes.length : Nat) : Int) 20001 = ((min o.bytes.length 20001 : Nat) : Int) := by omega
      rw [em]
      simp only at hn hlt hlt2
      refine a_add64 (by omega) (by omega) ?_
      refine x_fld ha hil (off := 3) (by decide) ((opC_get ho (by decide)).trans rfl) ?_
      refine x_len (a_gtr (ifd (fun _ => k false (by simp)) fun h1 => ?_))
      refine x_fld ha hil (off := 4) (by decide) ((opC_get ho (by decide)).trans rfl) ?_
      refine x_len (a_gtr (ifd (fun _ => k false (by simp)) fun h2 => ?_))
      refine x_fld ha hil (off := 6) (by decide) ((opC_get ho (by decide)).trans rfl) ?_
      refine x_lenS hF.events ?_
      refine a_gtr (ifd (fun _ => k false (by simp)) fun h3 => ?_)
      refine a_gtr (ifd (fun _ => k false (by simp)) fun h4 => ?_)
      refine a_add64 (by omega) (by omega) ?_
      rw [show ((i : Int) + 1) = ((i + 1 : Nat) : Int) by push_cast; rfl, show ((n : Int) + ((min o.bytes.length 20001 : Nat) : Int)) = ((n + min o.bytes.length 20001 : Nat) : Int) by push_cast; rfl]
      refine ⟨rfl, hnext (i + 1, n + min o.bytes.length 20001) W' (by simp only; omega) ⟨rfl, by simp only; omega, by simp only; omega, by simp only; omega, ?_⟩⟩
      intro q hq
      simp only at hq
      rw [List.take_add_one, ho] at hq
      rcases List.mem_append.1 hq with hq | hq
      · exact hall q hq
      · simp only [Option.toList_some, List.mem_singleton] at hq
        subst hq
        exact ⟨by omega, by omega, by omega, by omega⟩
    · refine ⟨rfl, rfl, fun hl => ?_⟩
      simp only at hlt2 hi2 hi hlt hall
      omega
  · refine ⟨rfl, rfl, fun hl => ?_⟩
    simp only at hlt hi hall
    have : ops.take i = ops := List.take_of_length_le (by omega)
    rw [this] at hall
    exact hall
/-- first -/
theorem first_spec (k : ∀ W', Below W.heap.size W W' → RR (.bool true) W') : CallF Try.prog 8 #[] W RR := by
  refine sh8_calls ?_
  unfold sh8
  have h := (St.start W).plNil .a
  refine newd_spec [] h (fun hx => absurd ⟨by decide, by decide⟩ hx) fun _ _ b W h => ?_
  refine a_ext0 (a_ext1 ?_)
  (repeat (first | (with_reducible refine ift ?_) | (with_reducible refine iff' ?_) | (with_reducible refine a_lss ?_) | (with_reducible refine a_leq ?_) | (with_reducible refine a_gtr ?_) | (with_reducible refine a_geq ?_) | (with_reducible refine w_eql ?_) | (with_reducible refine w_neq ?_) | (with_reducible refine s_eql ?_) | (with_reducible refine s_neq ?_) | ((with_reducible refine a_add64 ?h0 ?h1 ?_); (case h0 => omega); (case h1 => omega);  skip) | ((with_reducible refine a_sub64 ?h0 ?h1 ?_); (case h0 => omega); (case h1 => omega);  skip) | ((with_reducible refine a_mul64 ?h0 ?h1 ?_); (case h0 => omega); (case h1 => omega);  skip) | (with_reducible refine a_notd ?_) | (with_reducible refine a_not ?_) | (with_reducible refine a_ext0 ?_) | (with_reducible refine a_ext1 ?_) | (with_reducible refine a_ext2 ?_) | (with_reducible refine x_len ?_) | (with_reducible refine x_lens ?_) | (with_reducible refine x_eqb ?_) | (with_reducible refine x_neb ?_) | (with_reducible refine x_nilP ?_) | (with_reducible refine x_nilPn ?_) | (with_reducible refine x_nilF ?_) | (with_reducible refine x_nilFF ?_) | (with_reducible refine w_eqlL ?_) | (with_reducible refine w_neqL ?_) | (with_reducible refine s_eqlL ?_) | (with_reducible refine ifnt ?_) | (with_reducible refine ifnf ?_) | (with_reducible refine x_eqB ?_) | (with_reducible refine x_neB ?_) | (with_reducible refine x_lssL ?_) | (with_reducible refine x_gtrL ?_) | (with_reducible refine x_geqL ?_) | (with_reducible refine s_neqL ?_) | (with_reducible refine St.load h ?_) | (with_reducible refine St.loadS h ?_) | (with_reducible refine a_fld0 ?_) | (with_reducible refine St.store h fun W h => ?_) | (with_reducible refine St.storeS h fun W h => ?_) | (with_reducible refine St.alloc h fun b W h => ?_) | (with_reducible refine St.allocS h fun b W h => ?_) | (with_reducible refine a_nil ?_) | (with_reducible refine ss_load ?_) | (with_reducible refine ss_loadS ?_) | (with_reducible refine ss_eqb ?_)))
  refine iff' ?_
  (repeat (first | (with_reducible refine ift ?_) | (with_reducible refine iff' ?_) | (with_reducible refine a_lss ?_) | (with_reducible refine a_leq ?_) | (with_reducible refine a_gtr ?_) | (with_reducible refine a_geq ?_) | (with_reducible refine w_eql ?_) | (with_reducible refine w_neq ?_) | (with_reducible refine s_eql ?_) | (with_reducible refine s_neq ?_) | ((with_reducible refine a_add64 ?h0 ?h1 ?_); (case h0 => omega); (case h1 => omega);  skip) | ((with_reducible refine a_sub64 ?h0 ?h1 ?_); (case h0 => omega); (case h1 => omega);  skip) | ((with_reducible refine a_mul64 ?h0 ?h1 ?_); (case h0 => omega); (case h1 => omega);  skip) | (with_reducible refine a_notd ?_) | (with_reducible refine a_not ?_) | (with_reducible refine a_ext0 ?_) | (with_reducible refine a_ext1 ?_) | (with_reducible refine a_ext2 ?_) | (with_reducible refine x_len ?_) | (with_reducible refine x_lens ?_) | (with_reducible refine x_eqb ?_) | (with_reducible refine x_neb ?_) | (with_reducible refine x_nilP ?_) | (with_reducible refine x_nilPn ?_) | (with_reducible refine x_nilF ?_) | (with_reducible refine x_nilFF ?_) | (with_reducible refine w_eqlL ?_) | (with_reducible refine w_neqL ?_) | (with_reducible refine s_eqlL ?_) | (with_reducible refine ifnt ?_) | (with_reducible refine ifnf ?_) | (with_reducible refine x_eqB ?_) | (with_reducible refine x_neB ?_) | (with_reducible refine x_lssL ?_) | (with_reducible refine x_gtrL ?_) | (with_reducible refine x_geqL ?_) | (with_reducible refine s_neqL ?_) | (with_reducible refine St.load h ?_) | (with_reducible refine St.loadS h ?_) | (with_reducible refine a_fld0 ?_) | (with_reducible refine St.store h fun W h => ?_) | (with_reducible refine St.storeS h fun W h => ?_) | (with_reducible refine St.alloc h fun b W h => ?_) | (with_reducible refine St.allocS h fun b W h => ?_) | (with_reducible refine a_nil ?_) | (with_reducible refine ss_load ?_) | (with_reducible refine ss_loadS ?_) | (with_reducible refine ss_eqb ?_)))
  refine ifd_neg (by decide) ?_
  refine h.lit (vs := [byteV 120]) (fun u W o h => ?_) (by decide)
  refine h.markB (v := u) (by decide) fun W h => ?_
  replace h := h.plAddR .a (v := u) (x := [120]) rfl rfl
  replace h := upD (v := (.pointer (some ⟨b, 0, none⟩) : Value)) h (subZ (z := (u, [120])))
  refine append_spec (v := (.pointer (some ⟨b, 0, none⟩) : Value)) (s := [97]) (b := [120]) h (by decide) (by decide) (Arg.pool (.inl List.mem_cons_self)) (by decide) fun zs1 W hz1 h => ?_
  refine sync_spec (v := (.pointer (some ⟨b, 0, none⟩) : Value)) h (by rw [appendP_calls]; decide) fun zs2 W hz2 h => ?_
  refine h.lit (vs := [byteV 121, byteV 122]) (fun u2 W o2 h => ?_) (by decide)
  refine h.markB (v := u2) (by decide) fun W h => ?_
  replace h := h.plAddR .a (v := u2) (x := [121, 122]) rfl rfl
  replace h := upD (v := (.pointer (some ⟨b, 0, none⟩) : Value)) h (subZ (z := (u2, [121, 122])))
  refine append_spec (v := (.pointer (some ⟨b, 0, none⟩) : Value)) (s := [97]) (b := [121, 122]) h (by rw [syncP_calls, appendP_calls]; decide) (by decide) (Arg.pool (.inl List.mem_cons_self)) (by decide) fun zs3 W hz3 h => ?_
  obtain ⟨ev, oe, h1⟩ := openD (v := (.pointer (some ⟨b, 0, none⟩) : Value)) h
  refine crash_spec (v := (.pointer (some ⟨b, 0, none⟩) : Value)) (keep := 0) (torn := 1) h1 fun zs4 W hz4 h => ?_
  refine peek_spec (s := [97]) (freezeE (v := (.pointer (some ⟨b, 0, none⟩) : Value)) h) fun x W2 ox h2 => ?_
  have e1 : gt [97] ((((((newD 100).appendP [97] [120]).1.syncP.1).appendP [97] [121, 122]).1).crash 0 1).now = [120, 121] := by decide +kernel
  have e2 : (getK [97] ((((((newD 100).appendP [97] [120]).1.syncP.1).appendP [97] [121, 122]).1).crash 0 1).now).isSome = true := by decide +kernel
  rw [e1] at h2
  rw [e2]
  refine a_ext0 (a_ext1 (ift ?_))
  replace h := h.frame1 h2
  refine x_str (l := [120, 121]) (h.osl (v := x)) ?_
  refine w_eqlL ?_
  exact k _ h.low
/-- Has -/
theorem lhas_spec {a : List Txt} {s : Txt} {u : Value} (hu : Sl W 1 u a.length (a.map strV)) (ha : a.length ≤ 1000000000) (k : RR (.bool (decide (s ∈ a))) W) : CallF Try.prog 24 #[u, strV s] W RR := by
  refine sh24_calls ?_
  unfold sh24
  refine lpx (α := Nat) (fun i => [nV .i64 i]) (fun i W' => W' = W ∧ i ≤ a.length ∧ s ∉ a.take i) (fun i => a.length - i) 0 (fun _ => rfl) rfl ⟨rfl, Nat.zero_le _, by simp⟩ ?_
  rintro next i W' hnext ⟨rfl, hi, hno⟩
  refine app1 ?_
  refine x_lenS hu ?_
  refine a_lss (ifd (fun hlt => ?_) fun hlt => ?_)
  · have hil : i < a.length := by omega
    obtain ⟨p, hp⟩ : ∃ p, a[i]? = some p := ⟨_, List.getElem?_eq_getElem hil⟩
    refine x_at hu (u := strV p) (by rw [List.getElem?_map, hp]; rfl) ?_
    refine w_eqlL (ifd (fun he => ?_) fun he => ?_)
    · rw [decide_eq_true (by rw [← he]; exact List.mem_of_getElem? hp)] at k
      exact k
    · refine a_add64 (by omega) (by omega) ?_
      rw [show ((i : Int) + 1) = ((i + 1 : Nat) : Int) by push_cast; rfl]
      refine ⟨rfl, rfl, hnext (i + 1) W' (by omega) ⟨rfl, by omega, ?_⟩⟩
      rw [List.take_add_one, hp, List.mem_append]
      rintro (hx | hx)
      · exact hno hx
      · simp only [Option.toList_some, List.mem_singleton] at hx
        exact he hx.symm
  · obtain rfl : i = a.length := by omega
    rw [List.take_length] at hno
    rw [decide_eq_false hno] at k
    exact k
end
end Go.Proofs.Ytdoopdbfajgnjaa
