/-
  FILES THAT FALL: DiskPlays: the program's disk and the document's answer alike: it returns true.
-/
import Derived.Test.YtdoopdbfajgnjaaDkO
namespace Go.Ez
open Go Go.Proofs Go.RowKit
set_option linter.unusedSimpArgs false
set_option linter.unusedVariables false
def wp (d : Dd) (p : List Ev) : Dd := { d with plan := p }
/-- alike, but for events that will never be -/
structure Sim (d dx : Dd) : Prop where
  eq : dx = wp d dx.plan
  fut : ∀ c : Int, (d.calls : Int) < c → d.plan.filter (fun e => decide (e.1 = c)) = dx.plan.filter (fun e => decide (e.1 = c))
theorem crash_wp (d : Dd) (p : List Ev) (k t : Int) : (wp d p).crash k t = wp (d.crash k t) p := by
  show (if d.down = true then wp d p else _) = wp (if d.down = true then d else _) p
  split <;> rfl
theorem evs_wp : ∀ (l : List Ev) (d : Dd) (p : List Ev) (f : Bool), evs l (wp d p) f = (wp (evs l d f).1 p, (evs l d f).2)
  | [], _, _, _ => rfl
  | e :: l, d, p, f => by
    simp only [evs]
    show (if e.1 ≠ d.calls then _ else _) = _
    by_cases h1 : e.1 ≠ d.calls
    · rw [if_pos h1, if_pos h1]; exact evs_wp l d p f
    · rw [if_neg h1, if_neg h1]
      by_cases h2 : e.2.1 = 1
      · rw [if_pos h2, if_pos h2, crash_wp]; exact evs_wp l _ p f
      · rw [if_neg h2, if_neg h2]
        by_cases h3 : e.2.1 = 2
        · rw [if_pos h3, if_pos h3]; exact evs_wp l d p true
        · rw [if_neg h3, if_neg h3]; exact evs_wp l d p f
theorem evs_filt : ∀ (l : List Ev) (d : Dd) (f : Bool) (c : Int), c = d.calls → evs l d f = evs (l.filter fun e => decide (e.1 = c)) d f
  | [], _, _, _, _ => rfl
  | e :: l, d, f, c, hc => by
    by_cases h1 : e.1 = c
    · rw [List.filter_cons_of_pos (by simpa using h1)]
      simp only [evs]
      have hne : ¬ e.1 ≠ (d.calls : Int) := fun hx => hx (h1.trans hc)
      rw [if_neg hne, if_neg hne]
      by_cases h2 : e.2.1 = 1
      · rw [if_pos h2, if_pos h2]; exact evs_filt l _ f c (by rw [(crash_calls d _ _).1]; exact hc)
      · rw [if_neg h2, if_neg h2]
        by_cases h3 : e.2.1 = 2
        · rw [if_pos h3, if_pos h3]; exact evs_filt l d true c hc
        · rw [if_neg h3, if_neg h3]; exact evs_filt l d f c hc
    · rw [List.filter_cons_of_neg (by simpa using h1)]
      simp only [evs]
      rw [if_pos (by rw [← hc]; exact h1)]
      exact evs_filt l d f c hc
theorem call_sim {d dx : Dd} (h : Sim d dx) (l : List Txt) : dx.call l = (wp (d.call l).1 dx.plan, (d.call l).2) := by
  have e1 : evs dx.plan dx.tick false = (wp (evs d.plan d.tick false).1 dx.plan, (evs d.plan d.tick false).2) := by
    have ht : dx.tick = wp d.tick dx.plan := by
      conv => lhs; rw [h.eq]
      rfl
    rw [ht, evs_wp, evs_filt dx.plan d.tick false ((d.calls : Int) + 1) (by show _ = ((d.calls + 1 : Nat) : Int); push_cast; rfl), ← h.fut _ (by omega), ← evs_filt d.plan d.tick false ((d.calls : Int) + 1) (by show _ = ((d.calls + 1 : Nat) : Int); push_cast; rfl)]
  show ((evs dx.plan dx.tick false).1, (evs dx.plan dx.tick false).2, if (evs dx.plan dx.tick false).1.down = true then (9 : Int) else if l.all okN = true then 0 else 11) = _
  rw [e1]
  rfl
theorem Sim.next {d dx d' : Dd} (h : Sim d dx) (hp : d'.plan = d.plan) (hc : d.calls ≤ d'.calls) : Sim d' (wp d' dx.plan) := ⟨rfl, fun c hcc => by rw [hp]; exact h.fut c (by omega)⟩
theorem appendP_sim {d dx : Dd} (h : Sim d dx) (s b : Txt) : dx.appendP s b = (wp (d.appendP s b).1 dx.plan, (d.appendP s b).2) ∧ (d.appendP s b).1.plan = d.plan := by
  have hp := (call_calls d [s]).2.1
  unfold Dd.appendP
  rw [call_sim h]
  generalize d.call [s] = r at *
  dsimp only
  by_cases h1 : r.2.2 ≠ 0
  · rw [if_pos h1, if_pos h1]; exact ⟨rfl, hp⟩
  rw [if_neg h1, if_neg h1]
  by_cases h2 : r.2.1 = true ∨ r.1.room - tot r.1.now < b.length
  · rw [if_pos h2, if_pos (show r.2.1 = true ∨ (wp r.1 dx.plan).room - tot (wp r.1 dx.plan).now < b.length from h2)]; exact ⟨rfl, hp⟩
  rw [if_neg h2, if_neg (show ¬ (r.2.1 = true ∨ (wp r.1 dx.plan).room - tot (wp r.1 dx.plan).now < b.length) from h2)]
  by_cases h3 : b = [] ∧ (getK s r.1.now).isSome = true
  · rw [if_pos h3, if_pos (show b = [] ∧ (getK s (wp r.1 dx.plan).now).isSome = true from h3)]; exact ⟨rfl, hp⟩
  · rw [if_neg h3, if_neg (show ¬ (b = [] ∧ (getK s (wp r.1 dx.plan).now).isSome = true) from h3)]; exact ⟨rfl, hp⟩
theorem cutP_sim {d dx : Dd} (h : Sim d dx) (s : Txt) (n : Int) : dx.cutP s n = (wp (d.cutP s n).1 dx.plan, (d.cutP s n).2) ∧ (d.cutP s n).1.plan = d.plan := by
  have hp := (call_calls d [s]).2.1
  unfold Dd.cutP
  rw [call_sim h]
  generalize d.call [s] = r at *
  dsimp only
  have hn : (wp r.1 dx.plan).now = r.1.now := rfl
  rw [hn]
  by_cases h1 : r.2.2 ≠ 0
  · rw [if_pos h1, if_pos h1]; exact ⟨rfl, hp⟩
  rw [if_neg h1, if_neg h1]
  by_cases h2 : getK s r.1.now = none
  · rw [if_pos h2, if_pos h2]; exact ⟨rfl, hp⟩
  rw [if_neg h2, if_neg h2]
  by_cases h3 : n < 0 ∨ (gt s r.1.now).length < n
  · rw [if_pos h3, if_pos h3]; exact ⟨rfl, hp⟩
  rw [if_neg h3, if_neg h3]
  by_cases h4 : n = (gt s r.1.now).length
  · rw [if_pos h4, if_pos h4]; exact ⟨rfl, hp⟩
  · rw [if_neg h4, if_neg h4]; exact ⟨rfl, hp⟩
theorem renameP_sim {d dx : Dd} (h : Sim d dx) (s t : Txt) : dx.renameP s t = (wp (d.renameP s t).1 dx.plan, (d.renameP s t).2) ∧ (d.renameP s t).1.plan = d.plan := by
  have hp := (call_calls d [s, t]).2.1
  unfold Dd.renameP
  rw [call_sim h]
  generalize d.call [s, t] = r at *
  dsimp only
  have hn : (wp r.1 dx.plan).now = r.1.now := rfl
  rw [hn]
  by_cases h1 : r.2.2 ≠ 0
  · rw [if_pos h1, if_pos h1]; exact ⟨rfl, hp⟩
  rw [if_neg h1, if_neg h1]
  by_cases h2 : getK s r.1.now = none
  · rw [if_pos h2, if_pos h2]; exact ⟨rfl, hp⟩
  rw [if_neg h2, if_neg h2]
  by_cases h3 : s = t
  · rw [if_pos h3, if_pos h3]; exact ⟨rfl, hp⟩
  · rw [if_neg h3, if_neg h3]; exact ⟨rfl, hp⟩
theorem deleteP_sim {d dx : Dd} (h : Sim d dx) (s : Txt) : dx.deleteP s = (wp (d.deleteP s).1 dx.plan, (d.deleteP s).2) ∧ (d.deleteP s).1.plan = d.plan := by
  have hp := (call_calls d [s]).2.1
  unfold Dd.deleteP
  rw [call_sim h]
  generalize d.call [s] = r at *
  dsimp only
  have hn : (wp r.1 dx.plan).now = r.1.now := rfl
  rw [hn]
  by_cases h1 : r.2.2 ≠ 0
  · rw [if_pos h1, if_pos h1]; exact ⟨rfl, hp⟩
  rw [if_neg h1, if_neg h1]
  by_cases h2 : getK s r.1.now = none
  · rw [if_pos h2, if_pos h2]; exact ⟨rfl, hp⟩
  · rw [if_neg h2, if_neg h2]; exact ⟨rfl, hp⟩
theorem syncP_sim {d dx : Dd} (h : Sim d dx) : dx.syncP = (wp d.syncP.1 dx.plan, d.syncP.2) ∧ d.syncP.1.plan = d.plan := by
  have hp := (call_calls d []).2.1
  unfold Dd.syncP
  rw [call_sim h]
  generalize d.call [] = r at *
  dsimp only
  by_cases h1 : r.2.2 ≠ 0
  · rw [if_pos h1, if_pos h1]; exact ⟨rfl, hp⟩
  · rw [if_neg h1, if_neg h1]; exact ⟨rfl, hp⟩
theorem readP_sim {d dx : Dd} (h : Sim d dx) (s : Txt) : dx.readP s = (wp (d.readP s).1 dx.plan, (d.readP s).2) ∧ (d.readP s).1.plan = d.plan ∧ (d.readP s).1.calls = d.calls + 1 := by
  have hp := (call_calls d [s]).2.1
  have hq := (call_calls d [s]).1
  unfold Dd.readP
  rw [call_sim h]
  generalize d.call [s] = r at *
  dsimp only
  have hn : (wp r.1 dx.plan).now = r.1.now := rfl
  rw [hn]
  by_cases h1 : r.2.2 ≠ 0
  · rw [if_pos h1, if_pos h1]; exact ⟨rfl, hp, hq⟩
  rw [if_neg h1, if_neg h1]
  by_cases h2 : getK s r.1.now = none
  · rw [if_pos h2, if_pos h2]; exact ⟨rfl, hp, hq⟩
  · rw [if_neg h2, if_neg h2]; exact ⟨rfl, hp, hq⟩
theorem listP_sim {d dx : Dd} (h : Sim d dx) : dx.listP = (wp d.listP.1 dx.plan, d.listP.2) ∧ d.listP.1.plan = d.plan ∧ d.listP.1.calls = d.calls + 1 := by
  have hp := (call_calls d []).2.1
  have hq := (call_calls d []).1
  unfold Dd.listP
  rw [call_sim h]
  generalize d.call [] = r at *
  dsimp only
  have hn : (wp r.1 dx.plan).now = r.1.now := rfl
  rw [hn]
  by_cases h1 : r.2.2 ≠ 0
  · rw [if_pos h1, if_pos h1]; exact ⟨rfl, hp, hq⟩
  · rw [if_neg h1, if_neg h1]; exact ⟨rfl, hp, hq⟩
/-- events to come -/
def evF (c : Nat) (l : List Ev) : List Ev := l.filter fun e => decide ((c : Int) < e.1)
theorem evF_succ {c : Nat} {l : List Ev} {i : Nat} {e : Ev} (h : l[i]? = some e) : evF c (l.take (i + 1)) = evF c (l.take i) ++ (if (c : Int) < e.1 then [e] else []) := by
  rw [List.take_add_one, h]
  unfold evF
  rw [List.filter_append]
  congr 1
  by_cases hx : (c : Int) < e.1 <;> simp [hx]
theorem sim_plan {d dx : Dd} (h : Sim d dx) (l : List Ev) : Sim { d with plan := l } { dx with plan := evF d.calls l } := by
  refine ⟨?_, fun c hc => ?_⟩
  · show { dx with plan := evF d.calls l } = { d with plan := evF d.calls l }
    rw [h.eq]; rfl
  · show l.filter _ = (evF d.calls l).filter _
    unfold evF
    rw [List.filter_filter]
    refine List.filter_congr fun e _ => ?_
    by_cases he : e.1 = c
    · have : (d.calls : Int) < e.1 := by rw [he]; exact hc
      simp [he, hc]
    · simp [he]
theorem u8_succ (c : UInt8) : (.int .u8 (IntKind.u8.wrap ((c.toNat : Int) + 1)) : Value) = byteV (c + 1) := by
  unfold byteV
  congr 1
end Go.Ez
namespace Go.Proofs.Ytdoopdbfajgnjaa
open Go Go.Ez Go.RowKit
set_option linter.unusedSimpArgs false
set_option linter.unusedVariables false
section
variable {Wz w0 W : World} {l R R1 R2 R3 R4 R5 : List As} {zs zs' : Zs} {v xv : Value} {RR : Value → World → Prop} {s : Txt} {d dx : Dd}
theorem x_ssl {P : Program} {K : Value → Prop} {S' : World → Prop} {w1 : World} {t e : TypeId} {sz bytes n i : Nat} {z v : Value} {k0 : IntKind} {cs zs es : List Value} [S : SlT P t e sz bytes z] [T : TyS P e sz zs] (hv : Sl w1 sz v n cs) (hS : ∀ w, S' w → Sl w sz v n cs) (hil : i < n) (hlen : es.length = sz) (hes : ∀ j u, es[j]? = some u → cs[i * sz + j]? = some u) (k : K (.agg es.toArray)) :
    RunA P (Instr.indexAt t v (.int k0 (i : Int))) fun q => RunS P S' (Instr.loadAt e q) K := by
  have hpos := S.el.pos
  obtain ⟨ao, cap, rfl, hnc, hl, hc, _⟩ := hv
  have h0 : es[0]? = some (es[0]'(by omega)) := List.getElem?_eq_getElem _
  obtain ⟨b, o, rfl, _⟩ := hc _ _ (hes _ _ h0)
  refine a_indexAt S.el.und S.el.size (by omega) (by omega) ?_
  rw [Int.toNat_natCast]
  refine ⟨_, fun w hw => ?_, k⟩
  obtain ⟨ao', cap', e1, _, _, hc', _⟩ := hS w hw
  cases e1
  obtain ⟨v', h1, h2⟩ := x_lds (P := P) (W := w) (e := e) (b := b) (o := o + i * sz) (cs := es) (K := fun v => v = .agg es.toArray) hlen (fun j u hu => by
    obtain ⟨b', o', e2, e3⟩ := hc' _ _ (hes j u hu)
    cases e2
    rw [Nat.add_assoc]; exact e3) rfl
  rw [h1, h2]
/-- Plain -/
theorem plain_spec {a : Value} {es : List Ev} (hs : Sl W 4 a es.length (rcells evC es)) (hn : es.length ≤ 1000000) (k : ∀ v' W', Cel1 v' → St W G0 [Ky v' (Ow 107 4 es.length (rcells evC es))] W' → RR v' W') : CallF Try.prog 60 #[a] W RR := by
  refine sh60_calls ?_
  unfold sh60
  have hnil : St W G0 (Ky (.slice none 0 0 : Value) (Ow 107 4 0 (rcells evC (es.take 0))) :: []) W := (St.start W).nilOw
  refine lpx (α := Nat × Value) (fun p => [p.2, nV .i64 p.1]) (fun p W' => p.1 ≤ es.length ∧ Cel1 p.2 ∧ St W G0 [Ky p.2 (Ow 107 4 p.1 (rcells evC (es.take p.1)))] W') (fun p => es.length - p.1) (0, .slice none 0 0) (fun _ => rfl) rfl ⟨Nat.zero_le _, ⟨rfl⟩, hnil⟩ ?_
  rintro next ⟨i, u⟩ W' hnext ⟨hi, ou, h⟩
  simp only at hi ou h
  refine app2 ?_
  refine x_lenS hs ?_
  refine a_lss (ifd (fun hlt => ?_) fun hlt => ?_)
  · have hil : i < es.length := by simp only at hlt; omega
    obtain ⟨e, he⟩ : ∃ e, es[i]? = some e := ⟨_, List.getElem?_eq_getElem hil⟩
    have hget : ∀ {j : Nat}, j < 4 → (rcells evC es)[i * 4 + j]? = (evC e)[j]? := fun hj => rc_get (f := evC) (sz := 4) (fun _ => rfl) he hj
    replace h := h.drew
    refine ⟨fun w => Below W.heap.size W w, h.low, ?_⟩
    refine x_sfld hs (fun w hw => hs.below hw) hil (off := 0) (by decide) ((hget (by decide)).trans rfl) ?_
    refine x_sfld hs (fun w hw => hs.below hw) hil (off := 1) (by decide) ((hget (by decide)).trans rfl) ?_
    refine x_sfld hs (fun w hw => hs.below hw) hil (off := 2) (by decide) ((hget (by decide)).trans rfl) ?_
    refine x_sfld hs (fun w hw => hs.below hw) hil (off := 3) (by decide) ((hget (by decide)).trans rfl) ?_
    refine x_bld (cells := [.int .i64 e.1, .int .i64 e.2.1, .int .i64 e.2.2.1, .int .i64 e.2.2.2].toArray) rfl ?_
    refine h.lit (vs := [.agg [.int .i64 e.1, .int .i64 e.2.1, .int .i64 e.2.2.1, .int .i64 e.2.2.2].toArray]) (fun u1 W1 o1 h => ?_) (by decide)
    refine h.app (v := u) (m := 1) (news := evC e) (h.osl (v := u1)) (fun x hx => evC_one [e] x (by simpa [rcells] using hx)) (by unfold maxLen; omega) (by omega) fun u2 W2 o2 h _ => ?_
    rw [rc_step he] at h
    refine a_add64 (by omega) (by omega) ?_
    rw [show ((i : Int) + 1) = ((i + 1 : Nat) : Int) by push_cast; rfl]
    exact ⟨rfl, hnext (i + 1, u2) W2 (by simp only; omega) ⟨by simp only; omega, o2, h.to⟩⟩
  · have hil : i = es.length := by simp only at hlt; omega
    subst hil
    rw [List.take_length] at h
    exact k u W' ou h
/-- Plan -/
theorem planx_spec {a : Value} {es : List Ev} [i : Has l v (Xk zs d) R1] [j : Has R1 a (Ow 107 4 es.length (rcells evC es)) R] (h : St w0 G0 l W) (hn : es.length ≤ 1000000) (k : ∀ W', St w0 G0 (Ky v (Xk zs (Dd.setPlan d (evF d.calls es))) :: Ky a (Ow 107 4 es.length (rcells evC es)) :: R) W' → RR (.tuple #[]) W') : CallF Try.prog 59 #[v, a] W RR := by
  refine sh59_calls ?_
  unfold sh59
  replace h := has2 (k := v) (k' := a) h
  obtain ⟨b, nv, sv, pv, ev, fs, gs, ps, rfl, hV, hf, hgg, hps, hcks, ⟨o1, o2, o3, o4⟩, h3⟩ := openX (v := v) h
  clear h
  have h := h3
  clear h3
  (repeat (first | (with_reducible refine ift ?_) | (with_reducible refine iff' ?_) | (with_reducible refine a_lss ?_) | (with_reducible refine a_leq ?_) | (with_reducible refine a_gtr ?_) | (with_reducible refine a_geq ?_) | (with_reducible refine w_eql ?_) | (with_reducible refine w_neq ?_) | (with_reducible refine s_eql ?_) | (with_reducible refine s_neq ?_) | ((with_reducible refine a_add64 ?h0 ?h1 ?_); (case h0 => omega); (case h1 => omega);  skip) | ((with_reducible refine a_sub64 ?h0 ?h1 ?_); (case h0 => omega); (case h1 => omega);  skip) | ((with_reducible refine a_mul64 ?h0 ?h1 ?_); (case h0 => omega); (case h1 => omega);  skip) | (with_reducible refine a_notd ?_) | (with_reducible refine a_not ?_) | (with_reducible refine a_ext0 ?_) | (with_reducible refine a_ext1 ?_) | (with_reducible refine a_ext2 ?_) | (with_reducible refine x_len ?_) | (with_reducible refine x_lens ?_) | (with_reducible refine x_eqb ?_) | (with_reducible refine x_neb ?_) | (with_reducible refine x_nilP ?_) | (with_reducible refine x_nilPn ?_) | (with_reducible refine x_nilF ?_) | (with_reducible refine x_nilFF ?_) | (with_reducible refine w_eqlL ?_) | (with_reducible refine w_neqL ?_) | (with_reducible refine s_eqlL ?_) | (with_reducible refine ifnt ?_) | (with_reducible refine ifnf ?_) | (with_reducible refine x_eqB ?_) | (with_reducible refine x_neB ?_) | (with_reducible refine x_lssL ?_) | (with_reducible refine x_gtrL ?_) | (with_reducible refine x_geqL ?_) | (with_reducible refine s_neqL ?_) | (with_reducible refine St.load h ?_) | (with_reducible refine St.loadS h ?_) | (with_reducible refine a_fld0 ?_) | (with_reducible refine St.store h fun W h => ?_) | (with_reducible refine St.storeS h fun W h => ?_) | (with_reducible refine St.alloc h fun b W h => ?_) | (with_reducible refine St.allocS h fun b W h => ?_) | (with_reducible refine a_nil ?_) | (with_reducible refine ss_load ?_) | (with_reducible refine ss_loadS ?_) | (with_reducible refine ss_eqb ?_)))
  have hnil : St w0 G0 (Ky (.slice none 0 0 : Value) (Ow 107 4 (evF d.calls (es.take 0)).length (rcells evC (evF d.calls (es.take 0)))) :: _) W := h.nilOw
  refine lpx (α := Nat) (fun i => [nV .i64 i]) (fun i W' => i ≤ es.length ∧ ∃ u, Cel1 u ∧ St w0 G0 (Ky b (Ob (.cells [.int .i64 d.room, nv, sv, pv, u, .int .i64 (d.calls : Int), .bool d.down].toArray 88 (0, 0))) :: Ky u (Ow 107 4 (evF d.calls (es.take i)).length (rcells evC (evF d.calls (es.take i)))) :: Ky nv (FO fs) :: Ky sv (FO gs) :: Ky pv (Ow 105 5 ps.length (rcells opxC ps)) :: Ky a (Ow 107 4 es.length (rcells evC es)) :: R) W') (fun i => es.length - i) 0 (fun _ => rfl) rfl ⟨Nat.zero_le _, .slice none 0 0, ⟨rfl⟩, hnil.to⟩ ?_
  clear h hnil
  rintro next i W hnext ⟨hi, u, ou, h⟩
  refine app1 ?_
  refine x_lenS (h.osl (v := a)) ?_
  have hfl : ∀ q : List Ev, (evF d.calls q).length ≤ q.length := fun q => List.length_filter_le _ _
  refine a_lss (ifd (fun hlt => ?_) fun hlt => ?_)
  · have hil : i < es.length := by omega
    obtain ⟨e, he⟩ : ∃ e, es[i]? = some e := ⟨_, List.getElem?_eq_getElem hil⟩
    have hget : ∀ {j : Nat}, j < 4 → (rcells evC es)[i * 4 + j]? = (evC e)[j]? := fun hj => rc_get (f := evC) (sz := 4) (fun _ => rfl) he hj
    have hsu := evF_succ (c := d.calls) he
    have h1 := hfl (es.take i)
    rw [List.length_take] at h1
    refine jni (fun vs W' => vs = [.pointer (some ⟨b, 0, none⟩), a, nV .i64 i] ∧ ∃ u, Cel1 u ∧ St w0 G0 (Ky b (Ob (.cells [.int .i64 d.room, nv, sv, pv, u, .int .i64 (d.calls : Int), .bool d.down].toArray 88 (0, 0))) :: Ky u (Ow 107 4 (evF d.calls (es.take (i + 1))).length (rcells evC (evF d.calls (es.take (i + 1))))) :: Ky nv (FO fs) :: Ky sv (FO gs) :: Ky pv (Ow 105 5 ps.length (rcells opxC ps)) :: Ky a (Ow 107 4 es.length (rcells evC es)) :: R) W') ?_ ?_
    · rintro vs W2 _ ⟨rfl, hq⟩
      refine app3 ?_
      refine a_add64 (by omega) (by omega) ?_
      rw [show ((i : Int) + 1) = ((i + 1 : Nat) : Int) by push_cast; rfl]
      exact ⟨rfl, rfl, hnext (i + 1) W2 (by omega) ⟨by omega, hq⟩⟩
    replace h := h.drew
    refine ⟨St w0 G0 _, h, ?_⟩
    refine x_sfld (h.osl (v := a)) (fun w hw => hw.osl (v := a)) hil (off := 0) (by decide) ((hget (by decide)).trans rfl) ?_
    refine a_nil (a_fld0 (ss_load ?_))
    refine a_gtr (ifd (fun hgt => ?_) fun hgt => ?_)
    · rw [if_pos hgt] at hsu
      replace h := h.drew
      refine ⟨fun w => Rec w b 88 [.int .i64 d.room, nv, sv, pv, u, .int .i64 (d.calls : Int), .bool d.down] ∧ Sl w 4 a es.length (rcells evC es), ⟨h.rc, h.osl (v := a)⟩, ?_⟩
      refine a_nil (a_fld0 (s_ld (fun w hw => hw.1) rfl ?_))
      refine x_ssl (es := evC e) (h.osl (v := a)) (fun w hw => hw.2) hil rfl (fun j u hu => by rw [hget (List.getElem?_eq_some_iff.1 hu).1, hu]) ?_
      refine h.lit (vs := [.agg (evC e).toArray]) (cs := evC e) (c := ⟨by intro u hu; simp only [List.mem_singleton] at hu; subst hu; rfl, by simp [Value.cells]⟩) (fun u1 W o1 h => ?_) (by decide)
      refine ⟨⟨h.rc, h.osl (v := a)⟩, ?_⟩
      refine h.app (v := u) (m := 1) (news := evC e) (h.osl (v := u1)) (fun x hx => evC_one [e] x (by simpa [rcells] using hx)) (by unfold maxLen; omega) (by omega) fun u2 W o2 h _ => ?_
      have e1 : rcells evC (evF d.calls (es.take i)) ++ evC e = rcells evC (evF d.calls (es.take (i + 1))) := by rw [hsu, rc_append]; simp [rcells]
      have e2 : (evF d.calls (es.take i)).length + 1 = (evF d.calls (es.take (i + 1))).length := by rw [hsu]; simp
      rw [e1, e2] at h
      (repeat (first | (with_reducible refine ift ?_) | (with_reducible refine iff' ?_) | (with_reducible refine a_lss ?_) | (with_reducible refine a_leq ?_) | (with_reducible refine a_gtr ?_) | (with_reducible refine a_geq ?_) | (with_reducible refine w_eql ?_) | (with_reducible refine w_neq ?_) | (with_reducible refine s_eql ?_) | (with_reducible refine s_neq ?_) | ((with_reducible refine a_add64 ?h0 ?h1 ?_); (case h0 => omega); (case h1 => omega);  skip) | ((with_reducible refine a_sub64 ?h0 ?h1 ?_); (case h0 => omega); (case h1 => omega);  skip) | ((with_reducible refine a_mul64 ?h0 ?h1 ?_); (case h0 => omega); (case h1 => omega);  skip) | (with_reducible refine a_notd ?_) | (with_reducible refine a_not ?_) | (with_reducible refine a_ext0 ?_) | (with_reducible refine a_ext1 ?_) | (with_reducible refine a_ext2 ?_) | (with_reducible refine x_len ?_) | (with_reducible refine x_lens ?_) | (with_reducible refine x_eqb ?_) | (with_reducible refine x_neb ?_) | (with_reducible refine x_nilP ?_) | (with_reducible refine x_nilPn ?_) | (with_reducible refine x_nilF ?_) | (with_reducible refine x_nilFF ?_) | (with_reducible refine w_eqlL ?_) | (with_reducible refine w_neqL ?_) | (with_reducible refine s_eqlL ?_) | (with_reducible refine ifnt ?_) | (with_reducible refine ifnf ?_) | (with_reducible refine x_eqB ?_) | (with_reducible refine x_neB ?_) | (with_reducible refine x_lssL ?_) | (with_reducible refine x_gtrL ?_) | (with_reducible refine x_geqL ?_) | (with_reducible refine s_neqL ?_) | (with_reducible refine St.load h ?_) | (with_reducible refine St.loadS h ?_) | (with_reducible refine a_fld0 ?_) | (with_reducible refine St.store h fun W h => ?_) | (with_reducible refine St.storeS h fun W h => ?_) | (with_reducible refine St.alloc h fun b W h => ?_) | (with_reducible refine St.allocS h fun b W h => ?_) | (with_reducible refine a_nil ?_) | (with_reducible refine ss_load ?_) | (with_reducible refine ss_loadS ?_) | (with_reducible refine ss_eqb ?_)))
      exact ⟨rfl, u2, o2, h.to⟩
    · rw [if_neg hgt, List.append_nil] at hsu
      refine ⟨rfl, u, ou, ?_⟩
      rw [hsu]; exact h
  · obtain rfl : i = es.length := by omega
    rw [List.take_length] at h
    have h2 := hfl es
    exact k W (St.to (shutX (b := b) (nv := nv) (sv := sv) (pv := pv) (ev := u) (fs := fs) (gs := gs) (ps := ps) (zs := zs) (Dd.setPlan d (evF d.calls es)) h ⟨hV.gm, hV.ok, hV.room0, hV.room1, hV.len, by show (evF d.calls es).length ≤ 1000000; omega⟩ hf hgg hps hcks rfl rfl rfl rfl rfl rfl rfl rfl rfl))
end
end Go.Proofs.Ytdoopdbfajgnjaa
