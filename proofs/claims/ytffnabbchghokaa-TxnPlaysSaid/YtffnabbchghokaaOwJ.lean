/-
  MAPS IN ORDER of writes: pairs of four cells: a map, opened and shut; structs stored into what is owned.
-/
import Derived.Test.YtffnabbchghokaaEzKq
import Derived.Test.YtffnabbchghokaaEzFz
import Derived.Test.YtffnabbchghokaaOmAvs
import Derived.Test.YtffnabbchghokaaShD
import Derived.Test.YtffnabbchghokaaOmBvs
import Derived.Test.YtffnabbchghokaaOmRgvs
import Derived.Test.YtffnabbchghokaaOmX
namespace Go.Ez
open Go Go.Proofs Go.RowKit
set_option linter.unusedSimpArgs false
set_option linter.unusedVariables false

/-- a write: its key, its value, is it gone? -/
abbrev Wr := Txt × Txt × Bool
def wrC (w : Wr) : List Value := [strV w.1, strV w.2.1, .bool w.2.2]
def qC (p : Txt × Wr) : List Value := [strV p.1, strV p.2.1, strV p.2.2.1, .bool p.2.2.2]
abbrev qcells (m : List (Txt × Wr)) : List Value := rcells qC m
theorem qC4 (p : Txt × Wr) : (qC p).length = 4 := rfl
theorem qcells_length (m : List (Txt × Wr)) : (qcells m).length = m.length * 4 := rc_length qC4 m
theorem qcells_get {m : List (Txt × Wr)} {i j : Nat} {p : Txt × Wr} (h : m[i]? = some p) (hj : j < 4) : (qcells m)[i * 4 + j]? = (qC p)[j]? := rc_get qC4 h hj
theorem qcells_append (m n : List (Txt × Wr)) : qcells (m ++ n) = qcells m ++ qcells n := rc_append m n
theorem qcells_take (m : List (Txt × Wr)) (i : Nat) : qcells (m.take i) = (qcells m).take (i * 4) := rc_take qC4 m i
theorem qcells_drop (m : List (Txt × Wr)) (i : Nat) : qcells (m.drop i) = (qcells m).drop (i * 4) := rc_drop qC4 m i
theorem qcells_one (m : List (Txt × Wr)) : ∀ c ∈ qcells m, c.oneCell' = true := rc_one (fun p c hc => by
  simp only [qC, List.mem_cons, List.not_mem_nil, or_false] at hc
  rcases hc with rfl | rfl | rfl | rfl <;> rfl) m
theorem qcells_set {m : List (Txt × Wr)} {i : Nat} {k : Txt} {u v : Wr} (h : m[i]? = some (k, u)) : qcells (m.set i (k, v)) = (qcells m).take (i * 4 + 1) ++ wrC v ++ (qcells m).drop (i * 4 + 1 + 3) := by
  have hil := List.getElem?_eq_some_iff.1 h
  have e : m = m.take i ++ (k, u) :: m.drop (i + 1) := by
    conv => lhs; rw [← List.take_append_drop i m]
    rw [List.drop_eq_getElem_cons hil.1, hil.2]
  have e1 : m.set i (k, v) = m.take i ++ (k, v) :: m.drop (i + 1) := by rw [List.set_eq_take_append_cons_drop, if_pos hil.1]
  rw [e1, qcells_append, qcells_take, show qcells ((k, v) :: m.drop (i + 1)) = (strV k :: wrC v) ++ qcells (m.drop (i + 1)) from rfl, qcells_drop]
  have hl := qcells_length m
  have ht : (qcells m).take (i * 4 + 1) = (qcells m).take (i * 4) ++ [strV k] := by
    rw [List.take_add_one]
    have := qcells_get h (j := 0) (by decide)
    rw [Nat.add_zero] at this
    rw [this]; rfl
  rw [ht, show i * 4 + 1 + 3 = (i + 1) * 4 by omega]
  simp
/-- v points to a map of these pairs -/
def MpQ (tm e : TypeId) (m : List (Txt × Wr)) (v : Value) : As :=
  As.ex fun p : Nat × Value => As.all (v = .pointer (some ⟨p.1, 0, none⟩) ∧ Srt m) [Ky p.1 (Ob (.cells [p.2].toArray tm (0, 0))), Ky p.2 (Ow e 4 m.length (qcells m))]
/-- it, left alone -/
def MqZ (tm : TypeId) (m : List (Txt × Wr)) (W : World) (v : Value) : Prop := ∃ b sl, v = .pointer (some ⟨b, 0, none⟩) ∧ Srt m ∧ Cel1 sl ∧ Rec W b tm [sl] ∧ Sl W 4 sl m.length (qcells m)
section
variable {P : Program} {w0 W W' : World} {G : Nat → Prop} {l R R1 : List As} {tm e : TypeId} {m : List (Txt × Wr)} {v : Value} {KU : World → Prop}
theorem openQ [i : Has l v (MpQ tm e m) R] (h : St w0 G l W) : ∃ b sl, v = .pointer (some ⟨b, 0, none⟩) ∧ Srt m ∧ Cel1 sl ∧ St w0 G (Ky b (Ob (.cells [sl].toArray tm (0, 0))) :: Ky sl (Ow e 4 m.length (qcells m)) :: R) W := by
  have h1 : St w0 G (MpQ tm e m v :: R) W := h.find (k := v) (X := MpQ tm e m)
  obtain ⟨⟨b, sl⟩, h2⟩ := h1.openE
  obtain ⟨⟨hv, hs⟩, h3⟩ := h2.openA
  have h4 : St w0 G (Ky b (Ob (.cells [sl].toArray tm (0, 0))) :: Ky sl (Ow e 4 m.length (qcells m)) :: R) W := h3
  exact ⟨b, sl, hv, hs, .of_own (h4.ow (v := sl)), h4⟩
theorem shutQ {b : Nat} {sl : Value} {n : Nat} {cs : List Value} [i : Has l b (Ob (.cells [sl].toArray tm (0, 0))) R1] [j : Has R1 sl (Ow e 4 n cs) R] (h : St w0 G l W) (hs : Srt m) (hn : n = m.length) (hc : cs = qcells m) : St w0 G (Ky (.pointer (some ⟨b, 0, none⟩)) (MpQ tm e m) :: R) W := by
  subst hn; subst hc
  refine St.shutE (f := fun p : Nat × Value => As.all (Value.pointer (some ⟨b, 0, none⟩) = Value.pointer (some ⟨p.1, 0, none⟩) ∧ Srt m) [Ky p.1 (Ob (.cells [p.2].toArray tm (0, 0))), Ky p.2 (Ow e 4 m.length (qcells m))]) (b, sl) (St.shutA ⟨rfl, hs⟩ ?_)
  show St w0 G (Ky b (Ob (.cells [sl].toArray tm (0, 0))) :: Ky sl (Ow e 4 m.length (qcells m)) :: R) W
  obtain ⟨F, hF, hG⟩ := h.own
  exact { h with own := ⟨F, sepL_mono j.to (i.to F W hF), hG⟩ }
theorem freezeQ [i : Has l v (MpQ tm e m) R] (h : St w0 G l W) : MqZ tm m W v := by
  obtain ⟨b, sl, h1, h2, o, h⟩ := openQ (v := v) h
  exact ⟨b, sl, h1, h2, o, h.rc, h.osl (v := sl)⟩
theorem MqZ.below (h : MqZ tm m W v) (hb : Below W.heap.size W W') : MqZ tm m W' v := by
  obtain ⟨b, sl, h1, h2, o, h3, h4⟩ := h
  exact ⟨b, sl, h1, h2, o, h3.below hb, h4.below hb⟩
theorem MqZ.one (h : MqZ tm m W v) : Cel1 v := by obtain ⟨b, sl, rfl, _⟩ := h; exact ⟨rfl⟩
/-- a struct stored into an element of what is owned -/
theorem St.storeIS {t' : TypeId} {sz k n cap q g : Nat} {zs cs xs : List Value} [i : Has l (.slice (some ⟨g, 0, none⟩) n cap) (Ow e sz n xs) R] [T : TyS P t' k zs] (h : St w0 G l W) [o : OneL cs] [l2 : Len cs k] (hq : q + k ≤ n * sz)
    (kk : ∀ W', St w0 G (Ky (.slice (some ⟨g, 0, none⟩) n cap) (Ow e sz n (xs.take q ++ cs ++ xs.drop (q + k))) :: R) W' → KU W') : RunU P (Instr.storeAt t' (.pointer (some ⟨g, q, none⟩)) (.agg cs.toArray)) W KU := by
  have hlen : xs.length = n * sz := (h.ow (v := .slice (some ⟨g, 0, none⟩) n cap)).1
  rcases h.openOw (v := .slice (some ⟨g, 0, none⟩) n cap) with ⟨h0, _⟩ | ⟨g', cap', cur, hv, hnc, hcm, hcl, htk, h⟩
  · cases h0
  · cases hv
    have hrc := h.rc (b := g) (t := e) (cs := cur)
    have hcap : n * sz ≤ cap * sz := Nat.mul_le_mul_right _ hnc
    have hl2 := l2.eq
    have hst := run_storeCells_at P g q e cs 0 cur.toArray W hrc (by simp; omega) o.one
    rw [Nat.add_zero] at hst
    refine .of (w' := W.setRow g (cur.take q ++ cs ++ cur.drop (q + cs.length)).toArray) ?_ (kk _ ?_)
    · have hst' : (storeCells ⟨g, q, none⟩ cs).run P W = _ := hst
      simp [Instr.storeAt, Instr.sureAddr, storeVar, T.agg, T.size, hst', Value.cells, hl2]
    · have h3 : St w0 G (Ky g (Ob (.cells (cur.take q ++ cs ++ cur.drop (q + cs.length)).toArray e (0, 0))) :: R) (W.setRow g (cur.take q ++ cs ++ cur.drop (q + cs.length)).toArray) :=
        h.setB (b := g) (o := .cells cur.toArray e (0, 0)) (Mod.setRow W g (cur.take q ++ cs ++ cur.drop (q + cs.length)).toArray) (setRow_heap W g _ (cur.take q ++ cs ++ cur.drop (q + cs.length)).toArray e (0, 0) hrc)
      refine h3.shutOw (g := g) hnc hcm (by rw [splice_len (by omega), hcl]) ?_
      rw [hl2, ← htk, List.drop_take, List.take_take, Nat.min_eq_left (by omega), List.take_append, List.take_of_length_le (by rw [List.length_append, List.length_take]; omega)]
      congr 2
      rw [List.length_append, List.length_take]
      omega
end
end Go.Ez

/-
  MAPS IN ORDER of writes: a key's place: what each function answers.
-/
namespace Go.Proofs.Ytffnabbchghokaa
open Go Go.Ez Go.RowKit
set_option linter.unusedSimpArgs false
set_option linter.unusedVariables false

theorem find1sw_spec {a k : Txt} {v : Wr} {w : World} {R : Value → World → Prop} (h : ∀ w', Below w.heap.size w w' → R (.int .i64 (cmpV a k)) w') : CallF Try.prog 139 #[.agg (qC (a, v)).toArray, strV k] w R := by
  refine sh139_calls ?_
  unfold sh139
  have hR := h
  have h := St.start w
  refine h.boxS (cs := [strV a, strV v.1, strV v.2.1, .bool v.2.2]) fun b W h => ?_
  (repeat (first | (with_reducible refine ift ?_) | (with_reducible refine iff' ?_) | (with_reducible refine a_lss ?_) | (with_reducible refine a_leq ?_) | (with_reducible refine a_gtr ?_) | (with_reducible refine a_geq ?_) | (with_reducible refine w_eql ?_) | (with_reducible refine w_neq ?_) | (with_reducible refine s_eql ?_) | (with_reducible refine s_neq ?_) | ((with_reducible refine a_add64 ?h0 ?h1 ?_); (case h0 => omega); (case h1 => omega);  skip) | ((with_reducible refine a_sub64 ?h0 ?h1 ?_); (case h0 => omega); (case h1 => omega);  skip) | ((with_reducible refine a_mul64 ?h0 ?h1 ?_); (case h0 => omega); (case h1 => omega);  skip) | (with_reducible refine a_notd ?_) | (with_reducible refine a_not ?_) | (with_reducible refine a_ext0 ?_) | (with_reducible refine a_ext1 ?_) | (with_reducible refine a_ext2 ?_) | (with_reducible refine x_len ?_) | (with_reducible refine x_lens ?_) | (with_reducible refine x_eqb ?_) | (with_reducible refine x_neb ?_) | (with_reducible refine x_nilP ?_) | (with_reducible refine x_nilPn ?_) | (with_reducible refine x_nilF ?_) | (with_reducible refine x_nilFF ?_) | (with_reducible refine w_eqlL ?_) | (with_reducible refine w_neqL ?_) | (with_reducible refine s_eqlL ?_) | (with_reducible refine ifnt ?_) | (with_reducible refine ifnf ?_) | (with_reducible refine x_eqB ?_) | (with_reducible refine x_neB ?_) | (with_reducible refine x_lssL ?_) | (with_reducible refine x_gtrL ?_) | (with_reducible refine x_geqL ?_) | (with_reducible refine s_neqL ?_) | (with_reducible refine St.load h ?_) | (with_reducible refine St.loadS h ?_) | (with_reducible refine a_fld0 ?_) | (with_reducible refine St.store h fun W h => ?_) | (with_reducible refine St.storeS h fun W h => ?_) | (with_reducible refine St.alloc h fun b W h => ?_) | (with_reducible refine St.allocS h fun b W h => ?_) | (with_reducible refine a_nil ?_) | (with_reducible refine ss_load ?_) | (with_reducible refine ss_loadS ?_) | (with_reducible refine ss_eqb ?_)))
  exact cmpvs_spec (hR W h.low)

/-- the place of a key -/
theorem searchsw_spec {m : List (Txt × Wr)} {k : Txt} {v : Value} {w : World} {R : Value → World → Prop} (hs : Srt m) (hv : Sl w 4 v m.length (qcells m)) (hl : m.length ≤ 1000000000)
    (h : ∀ w', Below w.heap.size w w' → R (.tuple #[nV .i64 (posK k m), .bool (hasK k m)]) w') :
    CallF Try.prog 138 #[v, strV k, .func (.func 139) #[] #[]] w R := by
  refine sh138_calls ?_
  unfold sh138
  have hp := posK_le k m
  have call : ∀ (i : Nat) (p : Txt × Wr) (W : World) (KK : Value → World → Prop), m[i]? = some p → Below w.heap.size w W → (∀ W', Below w.heap.size w W' → KK (.int .i64 (cmpV p.1 k)) W') →
      RunA Try.prog (Instr.indexAt 166 v (nV .i64 i)) fun q => RunW Try.prog (Instr.loadAt 171 q) W fun x => CallV Try.prog (.func (.func 139) #[] #[]) #[x, strV k] W KK := by
    intro i p W KK hi hW hK
    have hil := (List.getElem?_eq_some_iff.1 hi).1
    refine x_idx hv hil fun b o hc => ?_
    refine x_lds (cs := qC p) rfl (fun j u hu => ?_) ?_
    · have hj : j < 4 := (List.getElem?_eq_some_iff.1 hu).1
      have := hc j u hj ((qcells_get hi hj).trans hu)
      rw [hW.cell (p := ⟨b, o + j, none⟩) (World.block_lt_of_cell? _ _ this)]
      exact this
    · exact callV_fn (hentD _ (by kernel_rfl)) (find1sw_spec fun W' hb => hK W' (Below.next hW hb))
  refine x_lenS hv ?_
  refine lpx (α := Nat × Nat) (fun x => [nV .i64 x.1, nV .i64 x.2]) (fun x W => Below w.heap.size w W ∧ x.1 ≤ posK k m ∧ posK k m ≤ x.2 ∧ x.2 ≤ m.length) (fun x => x.2 - x.1) (0, m.length) (fun _ => rfl) rfl ⟨Below.refl _ _, Nat.zero_le _, hp, Nat.le_refl _⟩ ?_
  rintro next ⟨i, j⟩ W hnext ⟨hW, h1, h2, h3⟩
  refine app2 ?_
  refine a_lss (ifd (fun hc => ?_) fun hc => ?_)
  · have hij : i < j := by simp only at hc; omega
    refine a_add64 (by omega) (by omega) ?_
    rw [show ((i : Int) + (j : Int)) = ((i + j : Nat) : Int) by push_cast; rfl]
    refine v_convN Try.underlying3 Try.underlying186 (by simp [IntKind.max, IntKind.bits, IntKind.signed]; omega) ?_
    refine a_shrN (m := 1) (by decide) ?_
    refine v_convN Try.underlying186 Try.underlying3 (by simp [IntKind.max, IntKind.bits, IntKind.signed]; omega) ?_
    have hm1 : i ≤ (i + j) / 2 ^ 1 := by omega
    have hm2 : (i + j) / 2 ^ 1 < j := by omega
    generalize (i + j) / 2 ^ 1 = q at *
    refine jni (fun vs W => ∃ i' j', vs = [v, strV k, .func (.func 139) #[] #[], nV .i64 m.length, nV .i64 i', nV .i64 j'] ∧ (Below w.heap.size w W ∧ i' ≤ posK k m ∧ posK k m ≤ j' ∧ j' ≤ m.length) ∧ j' - i' < j - i) ?_ ?_
    · rintro vs W' _ ⟨i', j', rfl, hI, hlt⟩
      exact ⟨rfl, rfl, rfl, rfl, hnext (i', j') W' hlt hI⟩
    · obtain ⟨p, hpq⟩ : ∃ p, m[q]? = some p := ⟨_, List.getElem?_eq_getElem (by omega)⟩
      refine call q p W _ hpq hW fun W' hW' => ?_
      have hiff := posK_iff (k := k) hs hpq
      refine a_lss (ifd (fun hc => ?_) fun hc => ?_)
      · have := hiff.1 (cmpV_neg.1 hc)
        refine a_add64 (by omega) (by omega) ?_
        rw [show ((q : Int) + 1) = ((q + 1 : Nat) : Int) by push_cast; rfl]
        exact ⟨q + 1, j, rfl, ⟨hW', by omega, h2, h3⟩, by omega⟩
      · have : ¬ q < posK k m := fun hq => hc (cmpV_neg.2 (hiff.2 hq))
        exact ⟨i, q, rfl, ⟨hW', h1, by omega, by omega⟩, by omega⟩
  · have hij : i = posK k m := by simp only at hc h1 h2; omega
    subst hij
    refine a_lss (ifd (fun hc => ?_) fun hc => ?_)
    · obtain ⟨p, hpq⟩ : ∃ p, m[posK k m]? = some p := ⟨_, List.getElem?_eq_getElem (by omega)⟩
      refine call (posK k m) p W _ hpq hW fun W' hW' => ?_
      refine w_eql ?_
      have : decide (cmpV p.1 k = 0) = hasK k m := by
        unfold hasK
        rw [hpq]
        exact decide_eq_decide.2 cmpV_zero
      rw [this]
      exact h W' hW'
    · have : hasK k m = false := by
        unfold hasK
        rw [List.getElem?_eq_none (by omega)]
      have hh := h W hW
      rw [this] at hh
      exact hh
end Go.Proofs.Ytffnabbchghokaa

/-
  SLICES OF PAIRS ([string, handbill/api.Write]): a pair set in, a pair taken out, a copy: what the library's functions answer.
-/
namespace Go.Proofs.Ytffnabbchghokaa
open Go Go.Ez Go.RowKit
set_option linter.unusedSimpArgs false
set_option linter.unusedVariables false

theorem insertsw_spec {w0 W : World} {G : Nat → Prop} {l R1 R : List As} {v u c0 c1 c2 c3 : Value} {n i : Nat} {xs : List Value} {RR : Value → World → Prop} [Has l v (Ow 171 4 n xs) R1] [Has R1 u (Ow 171 4 1 [c0, c1, c2, c3]) R] [o0 : Cel1 c0] [o1 : Cel1 c1] [o2 : Cel1 c2] [o3 : Cel1 c3]
    (h : St w0 G l W) (hx : ∀ c ∈ xs, c.oneCell' = true) (hi : i ≤ n) (hn : n ≤ 1000000000)
    (k : ∀ v' W', Cel1 v' → St w0 G (Ky v' (Ow 171 4 (n + 1) (xs.take (i * 4) ++ [c0, c1, c2, c3] ++ xs.drop (i * 4))) :: R) W' → RR v' W') :
    CallF Try.prog 137 #[v, nV .i64 i, u] W RR := by
  refine sh137_calls ?_
  unfold sh137
  have hv := h.osl (v := v)
  have hlen : xs.length = n * 4 := (h.ow (v := v)).1
  have h2 : St w0 G (Ky u (Ow 171 4 1 [c0, c1, c2, c3]) :: Ky v (Ow 171 4 n xs) :: R) W := (St.find (k := v) (X := Ow 171 4 n xs) h).to
  have hu := h2.osl (v := u)
  refine x_slAny hv hi fun _ => ?_
  refine x_lenS hu ?_
  refine w_eql (ifd_neg (by decide) ?_)
  refine x_lenS hv ?_
  refine w_eql (ifd (fun hc => ?_) fun hc => ?_)
  · have hin : i = n := by omega
    subst hin
    refine St.app (v := v) h2 hu (by simp [o0.one, o1.one, o2.one, o3.one]) (by unfold maxLen; omega) (by omega) fun v' W' o' h' _ => ?_
    have e : xs.take (i * 4) ++ [c0, c1, c2, c3] ++ xs.drop (i * 4) = xs ++ [c0, c1, c2, c3] := by rw [← hlen, List.take_length, List.drop_length, List.append_nil]
    refine k v' W' o' ?_
    rw [e]
    exact h'.to
  · have hin : i < n := by omega
    rcases h2.openOw (v := v) with ⟨_, h0, _, _⟩ | ⟨g, cap, cur, rfl, hnc, hcm, hcl, htk, h3⟩
    · omega
    rcases h3.openOw (v := u) with ⟨_, h0, _, _⟩ | ⟨gu, capu, curu, rfl, huc, hum, hul, hut, h4⟩
    · omega
    have hcap : cap ≤ 9223372036854775807 := by unfold maxLen at hcm; exact hcm
    have husrc : ∀ (W' : World), W'.heap[gu]? = some (.cells curu.toArray 171 (0, 0)) → ∀ j x, [c0, c1, c2, c3][j]? = some x → W'.cell? ((⟨gu, 0, none⟩ : Addr).add j) = some x := by
      intro W' hW j x hj
      rw [addr_add, Nat.zero_add]
      refine Rec.cell (t := 171) (cs := curu) hW ?_
      rw [← hut, List.getElem?_take] at hj
      split at hj
      · exact hj
      · cases hj
    refine a_add64 (by omega) (by omega) ?_
    rw [show ((n : Int) + ((1 : Nat) : Int)) = ((n + 1 : Nat) : Int) by push_cast; rfl]
    refine x_cap ?_
    refine a_gtr (ifd (fun hg => ?_) fun hg => ?_)
    · have hg' : cap < n + 1 := by omega
      refine x_slH (by omega) ?_
      refine a_add64 (by omega) (by omega) ?_
      rw [show ((n : Int) + ((1 : Nat) : Int)) = ((n + 1 : Nat) : Int) by push_cast; rfl]
      refine a_sub64 (by omega) (by omega) ?_
      rw [show (((n + 1 : Nat) : Int) - (i : Int)) = ((n + 1 - i : Nat) : Int) by omega]
      have hA : (cur.take (i * 4)).length = i * 4 := by rw [List.length_take, hcl]; omega
      refine St.appZeros (olds := cur.take (i * 4)) h4 hA (fun j x hj => ?_) (by omega) (by omega) (by omega) (by unfold maxLen; omega) fun g' cap' rest W' hc1 hc2 hrl h5 _ => ?_
      · rw [addr_add, Nat.zero_add]
        rw [List.getElem?_take] at hj
        split at hj
        · exact h4.cellOf (g := g) hj
        · cases hj
      have hz := zerosL_length (z := (.agg #[c0, c1, c2, c3] : Value)) (n := n + 1 - i) (sz := 4) rfl
      rw [show i + (n + 1 - i) = n + 1 by omega] at hc1 hrl ⊢
      refine x_slL (by omega) ?_
      have ho1 : offs cap' i 0 4 = i * 4 := by unfold offs; rw [if_neg (by omega), Nat.zero_add]
      rw [ho1]
      generalize hZ : zerosL _ (n + 1 - i) = Z at h5
      have hZl : Z.length = (n + 1 - i) * 4 := by rw [← hZ]; exact zerosL_length rfl
      refine St.copy (m := 1) (g := g') (cs := [c0, c1, c2, c3]) h5 (by simp [Nat.min_def]; omega) rfl (husrc W' h5.ob) (by simp only [List.length_append, hA, hZl, hrl, List.length_cons, List.length_nil]; omega) (by simp [o0.one, o1.one, o2.one, o3.one]) fun W' h6 => ?_
      refine ⟨fun _ => True, trivial, ?_⟩
      replace h6 := h6.drew
      refine a_add64 (by omega) (by omega) ?_
      rw [show ((i : Int) + ((1 : Nat) : Int)) = ((i + 1 : Nat) : Int) by push_cast; rfl]
      refine x_slL (by omega) ?_
      have ho2 : offs cap' (i + 1) 0 4 = (i + 1) * 4 := by unfold offs; rw [if_neg (by omega), Nat.zero_add]
      rw [ho2]
      refine x_slL (by omega) ?_
      have ho3 : offs cap i 0 4 = i * 4 := by unfold offs; rw [if_neg (by omega), Nat.zero_add]
      rw [ho3]
      have hcsl : (xs.drop (i * 4)).length = (n - i) * 4 := by rw [List.length_drop, hlen]; omega
      have hcur1 : ((cur.take (i * 4) ++ Z ++ rest).take (i * 4) ++ [c0, c1, c2, c3] ++ (cur.take (i * 4) ++ Z ++ rest).drop (i * 4 + [c0, c1, c2, c3].length)).length = cap' * 4 := by
        simp only [List.length_append, List.length_take, List.length_drop, hA, hZl, hrl, List.length_cons, List.length_nil, hcl]; omega
      refine St.copy (m := n - i) (g := g') (cs := xs.drop (i * 4)) h6 (by simp only [Nat.min_def]; split <;> omega) hcsl (fun j x hj => ?_) (by rw [hcur1, hcsl]; omega) (fun c hc => hx c (List.mem_of_mem_drop hc)) fun W' h7 => ?_
      · rw [addr_add]
        rw [← htk, List.getElem?_drop, List.getElem?_take] at hj
        split at hj
        · exact h6.cellOf (g := g) hj
        · cases hj
      · have hA2 : cur.take (i * 4) = xs.take (i * 4) := by rw [← htk, List.take_take, Nat.min_eq_left (by omega)]
        refine k _ W' ⟨rfl⟩ ?_
        refine (St.shutOw (g := g') (sz := 4) (n := n + 1) (cap := cap') (xs := xs.take (i * 4) ++ [c0, c1, c2, c3] ++ xs.drop (i * 4)) h7 hc1 hc2 ?_ ?_).to
        · rw [splice_len (by rw [hcur1, hcsl]; omega)]; exact hcur1
        · have e1 : ((cur.take (i * 4) ++ Z ++ rest).take (i * 4) ++ [c0, c1, c2, c3] ++ (cur.take (i * 4) ++ Z ++ rest).drop (i * 4 + [c0, c1, c2, c3].length)).take ((i + 1) * 4) = xs.take (i * 4) ++ [c0, c1, c2, c3] := by
            rw [List.append_assoc (cur.take (i * 4)), take_len hA]
            rw [show (i + 1) * 4 = (cur.take (i * 4) ++ [c0, c1, c2, c3]).length by rw [List.length_append, hA]; simp; omega, List.take_left, hA2]
          rw [e1]
          exact take_len (by rw [List.length_append, List.length_append, hcsl, List.length_take, hlen]; simp; omega)
    · have hg' : n + 1 ≤ cap := by omega
      refine a_add64 (by omega) (by omega) ?_
      rw [show ((n : Int) + ((1 : Nat) : Int)) = ((n + 1 : Nat) : Int) by push_cast; rfl]
      refine x_slH (by omega) ?_
      refine a_add64 (by omega) (by omega) ?_
      rw [show ((i : Int) + ((1 : Nat) : Int)) = ((i + 1 : Nat) : Int) by push_cast; rfl]
      refine x_slL (by omega) ?_
      have ho2 : offs cap (i + 1) 0 4 = (i + 1) * 4 := by unfold offs; rw [if_neg (by omega), Nat.zero_add]
      have ho1 : offs cap i 0 4 = i * 4 := by unfold offs; rw [if_neg (by omega), Nat.zero_add]
      rw [ho2]
      refine St.apart (g := gu) (g' := g) (cur := curu) (cur' := cur) h4 (fun args => run_callFunc_extern (e := Extern.SlicesOverlaps.overlaps #[166, 166] #[4]) Try.func144 (by kernel_rfl) (by kernel_rfl) (by kernel_rfl) (by kernel_rfl) args _) (by omega) ?_
      refine a_not (ift ?_)
      refine ⟨fun _ => True, trivial, ?_⟩
      have h5 := h4.drew
      refine a_add64 (by omega) (by omega) ?_
      rw [show ((i : Int) + ((1 : Nat) : Int)) = ((i + 1 : Nat) : Int) by push_cast; rfl]
      refine x_slL (by omega) ?_
      rw [ho2]
      refine x_slL (by omega) ?_
      rw [ho1]
      have hcsl : (xs.drop (i * 4)).length = (n - i) * 4 := by rw [List.length_drop, hlen]; omega
      refine St.copy (m := n - i) (g := g) (cs := xs.drop (i * 4)) h5 (by simp [Nat.min_def]; omega) hcsl (fun j x hj => ?_) (by rw [hcl, hcsl]; omega) (fun c hc => hx c (List.mem_of_mem_drop hc)) fun W' h6 => ?_
      · rw [addr_add]
        rw [← htk, List.getElem?_drop, List.getElem?_take] at hj
        split at hj
        · exact h5.cellOf (g := g) hj
        · cases hj
      refine x_slL (by omega) ?_
      rw [ho1]
      have hA1 : (cur.take ((i + 1) * 4)).length = (i + 1) * 4 := by rw [List.length_take, hcl]; omega
      have hc1l : (cur.take ((i + 1) * 4) ++ xs.drop (i * 4) ++ cur.drop ((i + 1) * 4 + (xs.drop (i * 4)).length)).length = cap * 4 := by
        simp only [List.length_append, hA1, hcsl, List.length_drop, hcl]; omega
      refine St.copy (m := 1) (g := g) (cs := [c0, c1, c2, c3]) h6 (by simp [Nat.min_def]; omega) rfl (husrc W' (h6.ob (b := gu) (o := .cells curu.toArray 171 (0, 0)))) (by rw [hc1l]; simp; omega) (by simp [o0.one, o1.one, o2.one, o3.one]) fun W' h7 => ?_
      refine k _ W' ⟨rfl⟩ ?_
      have hB : ((cur.take ((i + 1) * 4) ++ xs.drop (i * 4) ++ cur.drop ((i + 1) * 4 + (xs.drop (i * 4)).length)).take (i * 4)) = xs.take (i * 4) := by
        rw [List.append_assoc, List.take_append_of_le_length (by rw [hA1]; omega), List.take_take, Nat.min_eq_left (by omega), ← htk, List.take_take, Nat.min_eq_left (by omega)]
      have hD : ((cur.take ((i + 1) * 4) ++ xs.drop (i * 4) ++ cur.drop ((i + 1) * 4 + (xs.drop (i * 4)).length)).drop (i * 4 + [c0, c1, c2, c3].length)) = xs.drop (i * 4) ++ cur.drop ((i + 1) * 4 + (xs.drop (i * 4)).length) := by
        rw [List.append_assoc, show i * 4 + [c0, c1, c2, c3].length = (cur.take ((i + 1) * 4)).length by rw [hA1]; simp; omega, List.drop_left]
      refine (St.shutOw (g := g) (sz := 4) (n := n + 1) (cap := cap) (xs := xs.take (i * 4) ++ [c0, c1, c2, c3] ++ xs.drop (i * 4)) h7 hg' hcm ?_ ?_).to
      · rw [hB, hD]
        simp only [List.length_append, List.length_take, List.length_drop, hlen, hcl, List.length_cons, List.length_nil]; omega
      · rw [hB, hD, ← List.append_assoc]
        exact take_len (by simp only [List.length_append, List.length_take, List.length_drop, hlen, List.length_cons, List.length_nil]; omega)
end Go.Proofs.Ytffnabbchghokaa

/-
  MAPS IN ORDER of writes: made, put into, asked, told: what each function answers.
-/
namespace Go.Proofs.Ytffnabbchghokaa
open Go Go.Ez Go.RowKit
set_option linter.unusedSimpArgs false
set_option linter.unusedVariables false

/-- a map of these writes -/
abbrev Mq (m : List (Txt × Wr)) : Value → As := MpQ 168 171 m
abbrev MqZ' (m : List (Txt × Wr)) : World → Value → Prop := MqZ 168 m
/-- writes as they are told -/
abbrev tellQ (m : List (Txt × Wr)) : List (List Value) := m.map fun p => [strV p.1, .agg (wrC p.2).toArray]
theorem tellQ_len {m : List (Txt × Wr)} : ∀ x ∈ tellQ m, x.length = 2 := by
  intro x hx
  obtain ⟨p, _, rfl⟩ := List.mem_map.1 hx
  rfl
theorem tellQ_at {m : List (Txt × Wr)} {i : Nat} {x : List Value} (h : (tellQ m)[i]? = some x) : ∃ p, m[i]? = some p ∧ x = [strV p.1, .agg (wrC p.2).toArray] := by
  rw [List.getElem?_map] at h
  cases hq : m[i]? with
  | none => rw [hq] at h; cases h
  | some q => rw [hq] at h; cases h; exact ⟨q, rfl, rfl⟩

section
variable {w0 W W' : World} {G : Nat → Prop} {l R R1 : List As} {m : List (Txt × Wr)} {v : Value} {RR : Value → World → Prop} {K : Value → Prop} {k : Txt}

theorem qcells_sl {n i : Nat} {p : Txt × Wr} {k0 : IntKind} (hv : Sl W 4 v n (qcells m)) (hil : i < n) (hi : m[i]? = some p) (kk : K (.agg (qC p).toArray)) : RunA Try.prog (Instr.indexAt 166 v (.int k0 (i : Int))) fun q => RunW Try.prog (Instr.loadAt 171 q) W K :=
  x_idx hv hil fun b o hc => x_lds (cs := qC p) rfl (fun j u hu => hc j u (List.getElem?_eq_some_iff.1 hu).1 ((qcells_get hi (List.getElem?_eq_some_iff.1 hu).1).trans hu)) kk
/-- the write of a pair that lies in a block -/
theorem ldW {b : Nat} {p : Txt × Wr} (hr : Rec W b 171 [strV p.1, strV p.2.1, strV p.2.2.1, .bool p.2.2.2]) (kk : K (.agg (wrC p.2).toArray)) : RunW Try.prog (Instr.loadAt 86 (.pointer (some ⟨b, 1, none⟩))) W K :=
  x_lds (cs := wrC p.2) rfl (fun j u hu => by
    refine Rec.cell hr ?_
    rw [Nat.add_comm]
    exact hu) kk

theorem cloneq_spec {n : Nat} {xs : List Value} (hs : Sl W 4 v n xs) (hx : ∀ c ∈ xs, c.oneCell' = true) (hn : n ≤ 1000000000) (kk : ∀ v' W', W'.ownsRow W.heap.size 171 4 v' n xs → Below W.heap.size W W' → RR v' W') :
    CallF Try.prog 126 #[v] W RR := by
  refine sh126_calls ?_
  unfold sh126
  have h := St.start W
  refine w_nilSE Try.underlying166 hs fun b hb => ?_
  refine ifb (fun hb1 => ?_) fun _ => ?_
  · obtain ⟨rfl, rfl⟩ := hb hb1
    obtain ⟨_, _, _, _, hl, _⟩ := hs
    have : xs = [] := List.eq_nil_of_length_eq_zero (by simpa using hl)
    subst this
    exact kk _ W own_nil (Below.refl _ _)
  · refine h.lit (vs := []) (fun v1 W1 o1 h => ?_) (by decide)
    refine h.app (v := v1) (h.sl0 hs) hx (by unfold maxLen; omega) (by omega) fun v2 W2 o2 h _ => ?_
    have := h.owG (v := v2)
    rw [Nat.zero_add, List.nil_append] at this
    exact kk v2 W2 this h.low

theorem newq_spec (h : St w0 G l W) (kk : ∀ v W', St w0 G (Ky v (Mq []) :: l) W' → Cel1 v → RR v W') : CallF Try.prog 90 #[] W RR := by
  refine sh90_calls ?_
  unfold sh90
  refine x_bld (cells := #[.slice none 0 0]) rfl ?_
  refine St.boxS (cs := [.slice none 0 0]) h fun b W h => ?_
  exact kk _ W (shutQ (b := b) (sl := .slice none 0 0) (m := []) (h.nilOw (e := 171) (sz := 4)) List.Pairwise.nil rfl rfl) ⟨rfl⟩

theorem findq_spec (hz : MqZ' m W v) (hl : m.length ≤ 1000000000) (kk : ∀ W', Below W.heap.size W W' → RR (.tuple #[nV .i64 (posK k m), .bool (hasK k m)]) W') :
    CallF Try.prog 118 #[v, strV k] W RR := by
  refine sh118_calls ?_
  unfold sh118
  obtain ⟨b, sl, rfl, hs, o, hr, hsl⟩ := hz
  refine a_nil (a_fld0 (w_ldR hr rfl ?_))
  refine searchsw_spec hs hsl hl fun W' hb => ?_
  refine a_ext0 (a_ext1 ?_)
  exact kk W' hb

theorem lenq_spec (hz : MqZ' m W v) (kk : RR (nV .i64 m.length) W) : CallF Try.prog 116 #[v] W RR := by
  refine sh116_calls ?_
  unfold sh116
  obtain ⟨b, sl, rfl, hs, o, hr, hsl⟩ := hz
  refine a_nil (a_fld0 (w_ldR hr rfl ?_))
  exact x_lenS hsl kk

/-- Get -/
theorem getq_spec {Wz : World} (hz : MqZ' m Wz v) (hl : m.length ≤ 1000000000) (kk : ∀ W', Below Wz.heap.size Wz W' → RR (.tuple #[.agg (wrC ((getK k m).getD default)).toArray, .bool (getK k m).isSome]) W') :
    CallF Try.prog 92 #[v, strV k] Wz RR := by
  refine sh92_calls ?_
  unfold sh92
  refine (St.start Wz).allocS fun b0 W h => ?_
  refine findq_spec (k := k) (hz.below h.low) hl fun W hb => ?_
  replace h := h.ext hb
  have hz1 := hz.below h.low
  obtain ⟨b, sl, rfl, hs, o, hr, hsl⟩ := hz1
  have hg := getK_pos (k := k) hs
  refine a_ext0 (a_ext1 (a_not ?_))
  refine ifnb (fun hh => ?_) fun hh => ?_
  · rw [hh] at hg
    rw [hg] at kk
    refine h.allocS fun b1 W h => ?_
    refine h.loadS ?_
    refine St.storeS (cs' := [.string ⟨#[]⟩, .string ⟨#[]⟩, .bool false]) h fun W h => ?_
    refine h.loadS ?_
    exact kk W h.low
  · obtain ⟨x, hx⟩ := hasK_spec.1 hh
    rw [if_pos hh, hx] at hg
    rw [hg] at kk
    have hil := (List.getElem?_eq_some_iff.1 hx).1
    refine a_nil (a_fld0 (w_ldR hr rfl ?_))
    refine x_idx hsl hil fun g o hc => ?_
    refine a_fld ?_
    refine x_lds (cs := [strV x.1, strV x.2.1, .bool x.2.2]) rfl (fun j u hu => ?_) ?_
    · have hj : j < 3 := (List.getElem?_eq_some_iff.1 hu).1
      have := hc (1 + j) u (by omega) ((qcells_get hx (j := 1 + j) (by omega)).trans (by rw [Nat.add_comm]; exact hu))
      rw [Nat.add_assoc]; exact this
    refine St.storeS (cs' := [strV x.1, strV x.2.1, .bool x.2.2]) h fun W h => ?_
    refine h.loadS ?_
    exact kk W h.low

/-- Put -/
theorem putq_spec [i : Has l v (Mq m) R] (h : St w0 G l W) {x : Wr} (hl : m.length ≤ 1000000) (kk : ∀ W', St w0 G (Ky v (Mq (putK k x m)) :: R) W' → RR (.bool (!hasK k m)) W') :
    CallF Try.prog 117 #[v, strV k, .agg (wrC x).toArray] W RR := by
  refine sh117_calls ?_
  unfold sh117
  replace h := h.find (k := v) (X := Mq m)
  refine h.boxS (cs := [strV x.1, strV x.2.1, .bool x.2.2]) fun bx W h => ?_
  refine findq_spec (k := k) (freezeQ (v := v) h) (by omega) fun W hb => ?_
  replace h := h.ext hb
  obtain ⟨b, sl, hv, hs, o, h'⟩ := openQ (v := v) h
  subst hv
  replace h := h'
  clear h'
  have hp := posK_le k m
  have hpl := qcells_length m
  refine a_ext0 (a_ext1 ?_)
  refine jni (fun vs W => vs = [.bool (hasK k m)] ∧ St w0 G (Ky (.pointer (some ⟨b, 0, none⟩)) (Mq (putK k x m)) :: R) W) ?_ ?_
  · rintro vs W' _ ⟨rfl, h⟩
    refine app1 ?_
    refine a_not ?_
    exact kk W' h
  · refine ifb (fun hh => ?_) fun hh => ?_
    · obtain ⟨u, hu⟩ := hasK_spec.1 hh
      have hil := (List.getElem?_eq_some_iff.1 hu).1
      replace h := h.drew
      refine ⟨St w0 G _, h, ?_⟩
      (repeat (first | (with_reducible refine ift ?_) | (with_reducible refine iff' ?_) | (with_reducible refine a_lss ?_) | (with_reducible refine a_leq ?_) | (with_reducible refine a_gtr ?_) | (with_reducible refine a_geq ?_) | (with_reducible refine w_eql ?_) | (with_reducible refine w_neq ?_) | (with_reducible refine s_eql ?_) | (with_reducible refine s_neq ?_) | ((with_reducible refine a_add64 ?h0 ?h1 ?_); (case h0 => omega); (case h1 => omega);  skip) | ((with_reducible refine a_sub64 ?h0 ?h1 ?_); (case h0 => omega); (case h1 => omega);  skip) | ((with_reducible refine a_mul64 ?h0 ?h1 ?_); (case h0 => omega); (case h1 => omega);  skip) | (with_reducible refine a_notd ?_) | (with_reducible refine a_not ?_) | (with_reducible refine a_ext0 ?_) | (with_reducible refine a_ext1 ?_) | (with_reducible refine a_ext2 ?_) | (with_reducible refine x_len ?_) | (with_reducible refine x_lens ?_) | (with_reducible refine x_eqb ?_) | (with_reducible refine x_neb ?_) | (with_reducible refine x_nilP ?_) | (with_reducible refine x_nilPn ?_) | (with_reducible refine x_nilF ?_) | (with_reducible refine x_nilFF ?_) | (with_reducible refine w_eqlL ?_) | (with_reducible refine w_neqL ?_) | (with_reducible refine s_eqlL ?_) | (with_reducible refine ifnt ?_) | (with_reducible refine ifnf ?_) | (with_reducible refine x_eqB ?_) | (with_reducible refine x_neB ?_) | (with_reducible refine x_lssL ?_) | (with_reducible refine x_gtrL ?_) | (with_reducible refine x_geqL ?_) | (with_reducible refine s_neqL ?_) | (with_reducible refine St.load h ?_) | (with_reducible refine St.loadS h ?_) | (with_reducible refine a_fld0 ?_) | (with_reducible refine St.store h fun W h => ?_) | (with_reducible refine St.storeS h fun W h => ?_) | (with_reducible refine St.alloc h fun b W h => ?_) | (with_reducible refine St.allocS h fun b W h => ?_) | (with_reducible refine a_nil ?_) | (with_reducible refine ss_load ?_) | (with_reducible refine ss_loadS ?_) | (with_reducible refine ss_eqb ?_)))
      refine h.setI (v := sl) hil fun g cap hsl _ => ?_
      subst hsl
      refine a_fld ?_
      refine St.storeIS (cs := [strV x.1, strV x.2.1, .bool x.2.2]) (n := m.length) (cap := cap) (sz := 4) (q := posK k m * 4 + 1) h (by omega) fun W h => ?_
      refine ⟨by rw [hh], St.to (shutQ (b := b) (sl := .slice (some ⟨g, 0, none⟩) m.length cap) (m := putK k x m) h (srt_put hs) ?_ ?_)⟩
      · unfold putK; rw [if_pos hh]; simp
      · unfold putK; rw [if_pos hh]; exact (qcells_set hu).symm
    · replace h := h.drew
      refine ⟨St w0 G _, h, ?_⟩
      (repeat (first | (with_reducible refine ift ?_) | (with_reducible refine iff' ?_) | (with_reducible refine a_lss ?_) | (with_reducible refine a_leq ?_) | (with_reducible refine a_gtr ?_) | (with_reducible refine a_geq ?_) | (with_reducible refine w_eql ?_) | (with_reducible refine w_neq ?_) | (with_reducible refine s_eql ?_) | (with_reducible refine s_neq ?_) | ((with_reducible refine a_add64 ?h0 ?h1 ?_); (case h0 => omega); (case h1 => omega);  skip) | ((with_reducible refine a_sub64 ?h0 ?h1 ?_); (case h0 => omega); (case h1 => omega);  skip) | ((with_reducible refine a_mul64 ?h0 ?h1 ?_); (case h0 => omega); (case h1 => omega);  skip) | (with_reducible refine a_notd ?_) | (with_reducible refine a_not ?_) | (with_reducible refine a_ext0 ?_) | (with_reducible refine a_ext1 ?_) | (with_reducible refine a_ext2 ?_) | (with_reducible refine x_len ?_) | (with_reducible refine x_lens ?_) | (with_reducible refine x_eqb ?_) | (with_reducible refine x_neb ?_) | (with_reducible refine x_nilP ?_) | (with_reducible refine x_nilPn ?_) | (with_reducible refine x_nilF ?_) | (with_reducible refine x_nilFF ?_) | (with_reducible refine w_eqlL ?_) | (with_reducible refine w_neqL ?_) | (with_reducible refine s_eqlL ?_) | (with_reducible refine ifnt ?_) | (with_reducible refine ifnf ?_) | (with_reducible refine x_eqB ?_) | (with_reducible refine x_neB ?_) | (with_reducible refine x_lssL ?_) | (with_reducible refine x_gtrL ?_) | (with_reducible refine x_geqL ?_) | (with_reducible refine s_neqL ?_) | (with_reducible refine St.load h ?_) | (with_reducible refine St.loadS h ?_) | (with_reducible refine a_fld0 ?_) | (with_reducible refine St.store h fun W h => ?_) | (with_reducible refine St.storeS h fun W h => ?_) | (with_reducible refine St.alloc h fun b W h => ?_) | (with_reducible refine St.allocS h fun b W h => ?_) | (with_reducible refine a_nil ?_) | (with_reducible refine ss_load ?_) | (with_reducible refine ss_loadS ?_) | (with_reducible refine ss_eqb ?_)))
      refine x_bld (cells := [strV k, strV x.1, strV x.2.1, .bool x.2.2].toArray) rfl ⟨h.to, ?_⟩
      refine h.lit (vs := [.agg [strV k, strV x.1, strV x.2.1, .bool x.2.2].toArray]) (cs := [strV k, strV x.1, strV x.2.1, .bool x.2.2]) (fun u W o2 h => ⟨h.to, ?_⟩) (by decide)
      refine insertsw_spec (v := sl) (u := u) h (qcells_one m) hp (by omega) fun v' W o3 h => ?_
      (repeat (first | (with_reducible refine ift ?_) | (with_reducible refine iff' ?_) | (with_reducible refine a_lss ?_) | (with_reducible refine a_leq ?_) | (with_reducible refine a_gtr ?_) | (with_reducible refine a_geq ?_) | (with_reducible refine w_eql ?_) | (with_reducible refine w_neq ?_) | (with_reducible refine s_eql ?_) | (with_reducible refine s_neq ?_) | ((with_reducible refine a_add64 ?h0 ?h1 ?_); (case h0 => omega); (case h1 => omega);  skip) | ((with_reducible refine a_sub64 ?h0 ?h1 ?_); (case h0 => omega); (case h1 => omega);  skip) | ((with_reducible refine a_mul64 ?h0 ?h1 ?_); (case h0 => omega); (case h1 => omega);  skip) | (with_reducible refine a_notd ?_) | (with_reducible refine a_not ?_) | (with_reducible refine a_ext0 ?_) | (with_reducible refine a_ext1 ?_) | (with_reducible refine a_ext2 ?_) | (with_reducible refine x_len ?_) | (with_reducible refine x_lens ?_) | (with_reducible refine x_eqb ?_) | (with_reducible refine x_neb ?_) | (with_reducible refine x_nilP ?_) | (with_reducible refine x_nilPn ?_) | (with_reducible refine x_nilF ?_) | (with_reducible refine x_nilFF ?_) | (with_reducible refine w_eqlL ?_) | (with_reducible refine w_neqL ?_) | (with_reducible refine s_eqlL ?_) | (with_reducible refine ifnt ?_) | (with_reducible refine ifnf ?_) | (with_reducible refine x_eqB ?_) | (with_reducible refine x_neB ?_) | (with_reducible refine x_lssL ?_) | (with_reducible refine x_gtrL ?_) | (with_reducible refine x_geqL ?_) | (with_reducible refine s_neqL ?_) | (with_reducible refine St.load h ?_) | (with_reducible refine St.loadS h ?_) | (with_reducible refine a_fld0 ?_) | (with_reducible refine St.store h fun W h => ?_) | (with_reducible refine St.storeS h fun W h => ?_) | (with_reducible refine St.alloc h fun b W h => ?_) | (with_reducible refine St.allocS h fun b W h => ?_) | (with_reducible refine a_nil ?_) | (with_reducible refine ss_load ?_) | (with_reducible refine ss_loadS ?_) | (with_reducible refine ss_eqb ?_)))
      refine ⟨by rw [hh], St.to (shutQ (b := b) (sl := v') (m := putK k x m) h (srt_put hs) ?_ ?_)⟩
      · unfold putK; rw [hh]; simp [List.length_take, List.length_drop]; omega
      · unfold putK
        rw [hh, if_neg (by simp), qcells_append, qcells_take, show qcells ((k, x) :: m.drop (posK k m)) = [strV k, strV x.1, strV x.2.1, .bool x.2.2] ++ qcells (m.drop (posK k m)) from rfl, qcells_drop, List.append_assoc]
end
end Go.Proofs.Ytffnabbchghokaa

/-
  MAPS IN ORDER of writes, left alone: all of them told, a part of them: what each function answers.
-/
namespace Go.Proofs.Ytffnabbchghokaa
open Go Go.Ez Go.RowKit
set_option linter.unusedSimpArgs false
set_option linter.unusedVariables false

/-- what All stands on, of a map left alone -/
def ItZq (b : Nat) (v : Value) (_ : Value) : As := As.all True [Ky b (Ob (.cells [v].toArray 133 (0, 0)))]

/-- what Range stands on -/
def ItRq (b bl bh : Nat) (v : Value) (lo hi : Txt) (m : List (Txt × Wr)) (_ : Value) : As := As.all True [Ky b (Ob (.cells [v].toArray 133 (0, 0))), Ky bl (Ob (.cells [(strV lo : Value)].toArray 9 (0, 0))), Ky bh (Ob (.cells [(strV hi : Value)].toArray 9 (0, 0)))]
/-- the pairs from lo on, below hi -/
def partMq (lo hi : Txt) (m : List (Txt × Wr)) : List (Txt × Wr) := m.filter fun p => !OKey.lt p.1 lo && OKey.lt p.1 hi

section
variable {w0 W : World} {l R : List As} {m : List (Txt × Wr)} {v : Value} {RR : Value → World → Prop}
theorem all1q_itrZ {b : Nat} (hz : MqZ' m w0 v) (hl : m.length ≤ 1000000) : Itr Try.prog w0 G0 (.func (.func 125) #[] #[.pointer (some ⟨b, 0, none⟩)]) (tellQ m) (ItZq b v) := by
  refine ⟨125, _, rfl, hentD _ (by kernel_rfl), fun yv C D I W RR oy hY h hd hs => ?_⟩
  show CallF Try.prog 125 #[yv, .pointer (some ⟨b, 0, none⟩)] W RR
  refine sh125_calls ?_
  unfold sh125
  have hpl := qcells_length m
  replace h := (St.open1 h.swap).2
  obtain ⟨bm, sl, hv, hsr, o, hr, hsl⟩ := hz.below h.low
  refine h.load ?_
  subst hv
  refine a_nil (a_fld0 (w_ldR hr rfl ?_))
  refine cloneq_spec hsl (qcells_one m) (by omega) fun cl W1 g1 g2 => ?_
  replace h := h.take g2 g1
  refine x_lenS (h.osl (v := cl)) ?_
  have back : ∀ (j : Nat) (E : Nat → As) (W : World), St w0 G0 (Ky j E :: Ky cl (Ow 171 4 m.length (qcells m)) :: Ky b (Ob (.cells [(.pointer (some ⟨bm, 0, none⟩) : Value)].toArray 133 (0, 0))) :: I) W →
      St w0 G0 (Ky j E :: Ky (.func (.func 125) #[] #[.pointer (some ⟨b, 0, none⟩)] : Value) (ItZq b (.pointer (some ⟨bm, 0, none⟩))) :: I) W := fun j E W h =>
    St.swap (St.shut1 (φ := True) trivial h.to)
  refine lpx (α := Nat) (fun i => [nV .i64 i]) (fun i W => i ≤ m.length ∧ St w0 G0 (Ky i C :: Ky cl (Ow 171 4 m.length (qcells m)) :: Ky b (Ob (.cells [(.pointer (some ⟨bm, 0, none⟩) : Value)].toArray 133 (0, 0))) :: I) W)
    (fun i => m.length - i) 0 (fun _ => rfl) rfl ⟨Nat.zero_le _, h.to⟩ ?_
  clear h
  rintro next i W hnext ⟨hi, h⟩
  refine app1 ?_
  refine a_lss (ifd (fun hc => ?_) fun hc => ?_)
  · have hil : i < m.length := by omega
    obtain ⟨p, hp⟩ : ∃ p, m[i]? = some p := ⟨_, List.getElem?_eq_getElem hil⟩
    refine qcells_sl (h.osl (v := cl)) hil hp ?_
    refine h.allocS fun pb W h => ?_
    refine h.storeS (cs' := [strV p.1, strV p.2.1, strV p.2.2.1, .bool p.2.2.2]) fun W h => ?_
    refine a_fld0 (h.load ?_)
    refine a_fld0 (ldW h.rc ?_)
    refine hY i [strV p.1, .agg (wrC p.2).toArray] (by rw [List.getElem?_map, hp]; rfl) (Ky pb (Ob (.cells [strV p.1, strV p.2.1, strV p.2.2.1, .bool p.2.2.2].toArray 171 (0, 0))) :: Ky cl (Ow 171 4 m.length (qcells m)) :: Ky b (Ob (.cells [(.pointer (some ⟨bm, 0, none⟩) : Value)].toArray 133 (0, 0))) :: I) W _ h.to (fun W h => ?_) fun W h => ?_
    · (repeat (first | (with_reducible refine ift ?_) | (with_reducible refine iff' ?_) | (with_reducible refine a_lss ?_) | (with_reducible refine a_leq ?_) | (with_reducible refine a_gtr ?_) | (with_reducible refine a_geq ?_) | (with_reducible refine w_eql ?_) | (with_reducible refine w_neq ?_) | (with_reducible refine s_eql ?_) | (with_reducible refine s_neq ?_) | ((with_reducible refine a_add64 ?h0 ?h1 ?_); (case h0 => omega); (case h1 => omega);  skip) | ((with_reducible refine a_sub64 ?h0 ?h1 ?_); (case h0 => omega); (case h1 => omega);  skip) | ((with_reducible refine a_mul64 ?h0 ?h1 ?_); (case h0 => omega); (case h1 => omega);  skip) | (with_reducible refine a_notd ?_) | (with_reducible refine a_not ?_) | (with_reducible refine a_ext0 ?_) | (with_reducible refine a_ext1 ?_) | (with_reducible refine a_ext2 ?_) | (with_reducible refine x_len ?_) | (with_reducible refine x_lens ?_) | (with_reducible refine x_eqb ?_) | (with_reducible refine x_neb ?_) | (with_reducible refine x_nilP ?_) | (with_reducible refine x_nilPn ?_) | (with_reducible refine x_nilF ?_) | (with_reducible refine x_nilFF ?_) | (with_reducible refine w_eqlL ?_) | (with_reducible refine w_neqL ?_) | (with_reducible refine s_eqlL ?_) | (with_reducible refine ifnt ?_) | (with_reducible refine ifnf ?_) | (with_reducible refine x_eqB ?_) | (with_reducible refine x_neB ?_) | (with_reducible refine x_lssL ?_) | (with_reducible refine x_gtrL ?_) | (with_reducible refine x_geqL ?_) | (with_reducible refine s_neqL ?_) | (with_reducible refine St.load h ?_) | (with_reducible refine St.loadS h ?_) | (with_reducible refine a_fld0 ?_) | (with_reducible refine St.store h fun W h => ?_) | (with_reducible refine St.storeS h fun W h => ?_) | (with_reducible refine St.alloc h fun b W h => ?_) | (with_reducible refine St.allocS h fun b W h => ?_) | (with_reducible refine a_nil ?_) | (with_reducible refine ss_load ?_) | (with_reducible refine ss_loadS ?_) | (with_reducible refine ss_eqb ?_)))
      rw [show ((i : Int) + 1) = ((i + 1 : Nat) : Int) by push_cast; rfl]
      exact ⟨rfl, rfl, rfl, hnext (i + 1) W (by omega) ⟨by omega, h.to⟩⟩
    · (repeat (first | (with_reducible refine ift ?_) | (with_reducible refine iff' ?_) | (with_reducible refine a_lss ?_) | (with_reducible refine a_leq ?_) | (with_reducible refine a_gtr ?_) | (with_reducible refine a_geq ?_) | (with_reducible refine w_eql ?_) | (with_reducible refine w_neq ?_) | (with_reducible refine s_eql ?_) | (with_reducible refine s_neq ?_) | ((with_reducible refine a_add64 ?h0 ?h1 ?_); (case h0 => omega); (case h1 => omega);  skip) | ((with_reducible refine a_sub64 ?h0 ?h1 ?_); (case h0 => omega); (case h1 => omega);  skip) | ((with_reducible refine a_mul64 ?h0 ?h1 ?_); (case h0 => omega); (case h1 => omega);  skip) | (with_reducible refine a_notd ?_) | (with_reducible refine a_not ?_) | (with_reducible refine a_ext0 ?_) | (with_reducible refine a_ext1 ?_) | (with_reducible refine a_ext2 ?_) | (with_reducible refine x_len ?_) | (with_reducible refine x_lens ?_) | (with_reducible refine x_eqb ?_) | (with_reducible refine x_neb ?_) | (with_reducible refine x_nilP ?_) | (with_reducible refine x_nilPn ?_) | (with_reducible refine x_nilF ?_) | (with_reducible refine x_nilFF ?_) | (with_reducible refine w_eqlL ?_) | (with_reducible refine w_neqL ?_) | (with_reducible refine s_eqlL ?_) | (with_reducible refine ifnt ?_) | (with_reducible refine ifnf ?_) | (with_reducible refine x_eqB ?_) | (with_reducible refine x_neB ?_) | (with_reducible refine x_lssL ?_) | (with_reducible refine x_gtrL ?_) | (with_reducible refine x_geqL ?_) | (with_reducible refine s_neqL ?_) | (with_reducible refine St.load h ?_) | (with_reducible refine St.loadS h ?_) | (with_reducible refine a_fld0 ?_) | (with_reducible refine St.store h fun W h => ?_) | (with_reducible refine St.storeS h fun W h => ?_) | (with_reducible refine St.alloc h fun b W h => ?_) | (with_reducible refine St.allocS h fun b W h => ?_) | (with_reducible refine a_nil ?_) | (with_reducible refine ss_load ?_) | (with_reducible refine ss_loadS ?_) | (with_reducible refine ss_eqb ?_)))
      exact hs (i + 1) W (by rw [List.length_map]; omega) (back _ _ W h.to)
  · have hil : i = m.length := by omega
    subst hil
    exact hd W (by rw [List.length_map]; exact back _ _ W h)

theorem range1q_itrZ {b bl bh : Nat} {lo hi : Txt} (hz : MqZ' m w0 v) (hl : m.length ≤ 1000000) : Itr Try.prog w0 G0 (.func (.func 140) #[] #[.pointer (some ⟨b, 0, none⟩), .pointer (some ⟨bl, 0, none⟩), .pointer (some ⟨bh, 0, none⟩)]) (tellQ (partMq lo hi m)) (ItRq b bl bh v lo hi m) := by
  refine ⟨140, _, rfl, hentD _ (by kernel_rfl), fun yv C D I W RR oy hY h hd hs => ?_⟩
  show CallF Try.prog 140 #[yv, .pointer (some ⟨b, 0, none⟩), .pointer (some ⟨bl, 0, none⟩), .pointer (some ⟨bh, 0, none⟩)] W RR
  refine sh140_calls ?_
  unfold sh140
  replace h := (St.open3 h.swap).2
  have ov : Cel1 v := by obtain ⟨_, _, rfl, _⟩ := id hz; exact ⟨rfl⟩
  refine h.load (h.load ?_)
  refine findq_spec (k := lo) (hz.below h.low) (by omega) fun W hb => ?_
  replace h := h.ext hb
  refine a_ext0 (a_ext1 ?_)
  refine h.load (h.load ?_)
  refine findq_spec (k := hi) (hz.below h.low) (by omega) fun W hb => ?_
  replace h := h.ext hb
  refine a_ext0 (a_ext1 ?_)
  refine h.load ?_
  obtain ⟨bm, sl, hv, hsr, o, hr, hsl⟩ := hz.below h.low
  subst hv
  refine a_nil (a_fld0 (w_ldR hr rfl ?_))
  refine w_max ?_
  rw [show max ((posK lo m : Nat) : Int) ((posK hi m : Nat) : Int) = ((max (posK lo m) (posK hi m) : Nat) : Int) by omega]
  have hp1 := posK_le lo m
  have hp2 := posK_le hi m
  have hrf := range_filter lo hi hsr
  have hpl : (partMq lo hi m).length = max (posK lo m) (posK hi m) - posK lo m := by
    show (m.filter _).length = _
    rw [← hrf, List.length_drop, List.length_take, Nat.min_eq_left (by omega)]
  have hpc : qcells (partMq lo hi m) = ((qcells m).drop (posK lo m * 4)).take ((max (posK lo m) (posK hi m) - posK lo m) * 4) := by
    show qcells (m.filter _) = _
    rw [← hrf, qcells_drop, qcells_take, List.drop_take, ← Nat.sub_mul]
  refine a_slice (SlT.el (P := Try.prog) (t := 166)) hsl (by omega) (by omega) (by omega) fun pv hpv => ?_
  simp only [Int.toNat_natCast] at hpv
  replace hpv : Sl W 4 pv (partMq lo hi m).length (qcells (partMq lo hi m)) := by rw [hpl, hpc]; exact hpv
  have hrl : (partMq lo hi m).length ≤ 1000000 := by omega
  clear hpl hpc hrf
  refine cloneq_spec hpv (qcells_one _) (by omega) fun cl W1 g1 g2 => ?_
  generalize partMq lo hi m = r at *
  replace h := h.take g2 g1
  refine x_lenS (h.osl (v := cl)) ?_
  have back : ∀ (j : Nat) (E : Nat → As) (W : World), St w0 G0 (Ky b (Ob (.cells [(.pointer (some ⟨bm, 0, none⟩) : Value)].toArray 133 (0, 0))) :: Ky bl (Ob (.cells [(strV lo : Value)].toArray 9 (0, 0))) :: Ky bh (Ob (.cells [(strV hi : Value)].toArray 9 (0, 0))) :: Ky j E :: I) W →
      St w0 G0 (Ky j E :: Ky (.func (.func 140) #[] #[.pointer (some ⟨b, 0, none⟩), .pointer (some ⟨bl, 0, none⟩), .pointer (some ⟨bh, 0, none⟩)] : Value) (ItRq b bl bh (.pointer (some ⟨bm, 0, none⟩)) lo hi m) :: I) W := fun j E W h => (St.shut3 (φ := True) trivial h).swap
  refine lpx (α := Nat) (fun i => [nV .i64 i]) (fun i W => i ≤ r.length ∧ St w0 G0 (Ky i C :: Ky cl (Ow 171 4 r.length (qcells r)) :: Ky b (Ob (.cells [(.pointer (some ⟨bm, 0, none⟩) : Value)].toArray 133 (0, 0))) :: Ky bl (Ob (.cells [(strV lo : Value)].toArray 9 (0, 0))) :: Ky bh (Ob (.cells [(strV hi : Value)].toArray 9 (0, 0))) :: I) W)
    (fun i => r.length - i) 0 (fun _ => rfl) rfl ⟨Nat.zero_le _, h.to⟩ ?_
  rintro next i W hnext ⟨hi', h⟩
  refine app1 ?_
  refine a_lss (ifd (fun hc => ?_) fun hc => ?_)
  · have hil : i < r.length := by omega
    obtain ⟨p, hp⟩ : ∃ p, r[i]? = some p := ⟨_, List.getElem?_eq_getElem hil⟩
    refine qcells_sl (h.osl (v := cl)) hil hp ?_
    refine h.allocS fun pb W h => ?_
    refine h.storeS (cs' := [strV p.1, strV p.2.1, strV p.2.2.1, .bool p.2.2.2]) fun W h => ?_
    refine a_fld0 (h.load ?_)
    refine a_fld0 (ldW h.rc ?_)
    refine hY i [strV p.1, .agg (wrC p.2).toArray] (by rw [List.getElem?_map, hp]; rfl) (Ky pb (Ob (.cells [strV p.1, strV p.2.1, strV p.2.2.1, .bool p.2.2.2].toArray 171 (0, 0))) :: Ky cl (Ow 171 4 r.length (qcells r)) :: Ky b (Ob (.cells [(.pointer (some ⟨bm, 0, none⟩) : Value)].toArray 133 (0, 0))) :: Ky bl (Ob (.cells [(strV lo : Value)].toArray 9 (0, 0))) :: Ky bh (Ob (.cells [(strV hi : Value)].toArray 9 (0, 0))) :: I) W _ h.to (fun W h => ?_) fun W h => ?_
    · (repeat (first | (with_reducible refine ift ?_) | (with_reducible refine iff' ?_) | (with_reducible refine a_lss ?_) | (with_reducible refine a_leq ?_) | (with_reducible refine a_gtr ?_) | (with_reducible refine a_geq ?_) | (with_reducible refine w_eql ?_) | (with_reducible refine w_neq ?_) | (with_reducible refine s_eql ?_) | (with_reducible refine s_neq ?_) | ((with_reducible refine a_add64 ?h0 ?h1 ?_); (case h0 => omega); (case h1 => omega);  skip) | ((with_reducible refine a_sub64 ?h0 ?h1 ?_); (case h0 => omega); (case h1 => omega);  skip) | ((with_reducible refine a_mul64 ?h0 ?h1 ?_); (case h0 => omega); (case h1 => omega);  skip) | (with_reducible refine a_notd ?_) | (with_reducible refine a_not ?_) | (with_reducible refine a_ext0 ?_) | (with_reducible refine a_ext1 ?_) | (with_reducible refine a_ext2 ?_) | (with_reducible refine x_len ?_) | (with_reducible refine x_lens ?_) | (with_reducible refine x_eqb ?_) | (with_reducible refine x_neb ?_) | (with_reducible refine x_nilP ?_) | (with_reducible refine x_nilPn ?_) | (with_reducible refine x_nilF ?_) | (with_reducible refine x_nilFF ?_) | (with_reducible refine w_eqlL ?_) | (with_reducible refine w_neqL ?_) | (with_reducible refine s_eqlL ?_) | (with_reducible refine ifnt ?_) | (with_reducible refine ifnf ?_) | (with_reducible refine x_eqB ?_) | (with_reducible refine x_neB ?_) | (with_reducible refine x_lssL ?_) | (with_reducible refine x_gtrL ?_) | (with_reducible refine x_geqL ?_) | (with_reducible refine s_neqL ?_) | (with_reducible refine St.load h ?_) | (with_reducible refine St.loadS h ?_) | (with_reducible refine a_fld0 ?_) | (with_reducible refine St.store h fun W h => ?_) | (with_reducible refine St.storeS h fun W h => ?_) | (with_reducible refine St.alloc h fun b W h => ?_) | (with_reducible refine St.allocS h fun b W h => ?_) | (with_reducible refine a_nil ?_) | (with_reducible refine ss_load ?_) | (with_reducible refine ss_loadS ?_) | (with_reducible refine ss_eqb ?_)))
      rw [show ((i : Int) + 1) = ((i + 1 : Nat) : Int) by push_cast; rfl]
      exact ⟨rfl, rfl, rfl, hnext (i + 1) W (by omega) ⟨by omega, h.to⟩⟩
    · (repeat (first | (with_reducible refine ift ?_) | (with_reducible refine iff' ?_) | (with_reducible refine a_lss ?_) | (with_reducible refine a_leq ?_) | (with_reducible refine a_gtr ?_) | (with_reducible refine a_geq ?_) | (with_reducible refine w_eql ?_) | (with_reducible refine w_neq ?_) | (with_reducible refine s_eql ?_) | (with_reducible refine s_neq ?_) | ((with_reducible refine a_add64 ?h0 ?h1 ?_); (case h0 => omega); (case h1 => omega);  skip) | ((with_reducible refine a_sub64 ?h0 ?h1 ?_); (case h0 => omega); (case h1 => omega);  skip) | ((with_reducible refine a_mul64 ?h0 ?h1 ?_); (case h0 => omega); (case h1 => omega);  skip) | (with_reducible refine a_notd ?_) | (with_reducible refine a_not ?_) | (with_reducible refine a_ext0 ?_) | (with_reducible refine a_ext1 ?_) | (with_reducible refine a_ext2 ?_) | (with_reducible refine x_len ?_) | (with_reducible refine x_lens ?_) | (with_reducible refine x_eqb ?_) | (with_reducible refine x_neb ?_) | (with_reducible refine x_nilP ?_) | (with_reducible refine x_nilPn ?_) | (with_reducible refine x_nilF ?_) | (with_reducible refine x_nilFF ?_) | (with_reducible refine w_eqlL ?_) | (with_reducible refine w_neqL ?_) | (with_reducible refine s_eqlL ?_) | (with_reducible refine ifnt ?_) | (with_reducible refine ifnf ?_) | (with_reducible refine x_eqB ?_) | (with_reducible refine x_neB ?_) | (with_reducible refine x_lssL ?_) | (with_reducible refine x_gtrL ?_) | (with_reducible refine x_geqL ?_) | (with_reducible refine s_neqL ?_) | (with_reducible refine St.load h ?_) | (with_reducible refine St.loadS h ?_) | (with_reducible refine a_fld0 ?_) | (with_reducible refine St.store h fun W h => ?_) | (with_reducible refine St.storeS h fun W h => ?_) | (with_reducible refine St.alloc h fun b W h => ?_) | (with_reducible refine St.allocS h fun b W h => ?_) | (with_reducible refine a_nil ?_) | (with_reducible refine ss_load ?_) | (with_reducible refine ss_loadS ?_) | (with_reducible refine ss_eqb ?_)))
      exact hs (i + 1) W (by rw [List.length_map]; omega) (back _ _ W h.to)
  · have hil : i = r.length := by omega
    subst hil
    exact hd W (by rw [List.length_map]; exact back _ _ W h.to)

theorem rangeq_specZ {lo hi : Txt} (hz : MqZ' m w0 v) (h : St w0 G0 l W) (hl : m.length ≤ 1000000) (k : ∀ f b bl bh W', Itr Try.prog w0 G0 f (tellQ (partMq lo hi m)) (ItRq b bl bh v lo hi m) → St w0 G0 (Ky f (ItRq b bl bh v lo hi m) :: l) W' → RR f W') :
    CallF Try.prog 122 #[v, strV lo, strV hi] W RR := by
  refine sh122_calls ?_
  unfold sh122
  have ov : Cel1 v := by obtain ⟨_, _, rfl, _⟩ := id hz; exact ⟨rfl⟩
  refine h.boxV fun b W h => ?_
  refine h.boxV fun bl W h => ?_
  refine h.boxV fun bh W h => ?_
  refine v_func ?_
  exact k _ b bl bh W (range1q_itrZ hz hl) (St.shut3 (φ := True) trivial h.to)
theorem allq_specZ (hz : MqZ' m w0 v) (h : St w0 G0 l W) (hl : m.length ≤ 1000000) (k : ∀ f b W', Itr Try.prog w0 G0 f (tellQ m) (ItZq b v) → St w0 G0 (Ky f (ItZq b v) :: l) W' → RR f W') : CallF Try.prog 99 #[v] W RR := by
  refine sh99_calls ?_
  unfold sh99
  have ov : Cel1 v := by obtain ⟨_, _, rfl, _⟩ := id hz; exact ⟨rfl⟩
  refine h.boxV fun b W h => ?_
  refine v_func ?_
  exact k _ b W (all1q_itrZ hz hl) (St.shut1 (φ := True) trivial h)
end
end Go.Proofs.Ytffnabbchghokaa

/-
  MAPS IN ORDER of writes: the pairs of two told, merged: what each function answers.
-/
namespace Go.Proofs.Ytffnabbchghokaa
open Go Go.Ez Go.RowKit
set_option linter.unusedSimpArgs false
set_option linter.unusedVariables false

section
variable {w0 W : World} {G : Nat → Prop} {l R : List As} {f : Value} {A : Value → As} {m : List (Txt × Wr)} {RR : Value → World → Prop} {K : Value → Prop}
theorem qcells_ssl {S' : World → Prop} {w1 : World} {v : Value} {n i : Nat} {p : Txt × Wr} {k0 : IntKind} (hv : Sl w1 4 v n (qcells m)) (hS : ∀ w, S' w → Sl w 4 v n (qcells m)) (hil : i < n) (hi : m[i]? = some p) (k : K (.agg (qC p).toArray)) :
    RunA Try.prog (Instr.indexAt 166 v (.int k0 (i : Int))) fun q => RunS Try.prog S' (Instr.loadAt 171 q) K := by
  have hg := qcells_get hi (j := 0) (by decide)
  obtain ⟨u0, hu0⟩ : ∃ u, (qC p)[0]? = some u := ⟨_, rfl⟩
  rw [hu0] at hg
  obtain ⟨ao, cap, rfl, hnc, hl, hc, _⟩ := hv
  obtain ⟨b, o, rfl, _⟩ := hc _ _ hg
  refine a_indexAt (SlT.el (P := Try.prog) (t := 166)).und (SlT.el (P := Try.prog) (t := 166)).size (by omega) (by omega) ?_
  rw [Int.toNat_natCast]
  refine ⟨_, fun w hw => ?_, k⟩
  obtain ⟨ao', cap', e1, _, _, hc', _⟩ := hS w hw
  cases e1
  obtain ⟨v', h1, h2⟩ := x_lds (P := Try.prog) (W := w) (e := 171) (b := b) (o := o + i * 4) (cs := qC p) (K := fun v => v = .agg (qC p).toArray) rfl (fun j u hu => by
    obtain ⟨b', o', e2, e3⟩ := hc' _ _ ((qcells_get hi (List.getElem?_eq_some_iff.1 hu).1).trans hu)
    cases e2
    rw [Nat.add_assoc]; exact e3) rfl
  rw [h1, h2]

def TnCq (bl : Nat) (m : List (Txt × Wr)) (i : Nat) : As := As.ex fun v : Value => As.all True [Ky bl (Ob (.cells [v].toArray 166 (0, 0))), Ky v (Ow 171 4 i (qcells (m.take i)))]

theorem takenq_spec [i : Has l f A R] (hI : Itr Try.prog w0 G f (tellQ m) A) (h : St w0 G l W) (hl : m.length ≤ 1000000)
    (k : ∀ v W', Cel1 v → St w0 G (Ky v (Ow 171 4 m.length (qcells m)) :: Ky f A :: R) W' → RR v W') : CallF Try.prog 120 #[f] W RR := by
  refine sh120_calls ?_
  unfold sh120
  obtain ⟨gf, lb, rfl, _⟩ := id hI
  replace h := h.find (k := (.func (.func gf) #[] lb : Value)) (X := A)
  (repeat (first | (with_reducible refine ift ?_) | (with_reducible refine iff' ?_) | (with_reducible refine a_lss ?_) | (with_reducible refine a_leq ?_) | (with_reducible refine a_gtr ?_) | (with_reducible refine a_geq ?_) | (with_reducible refine w_eql ?_) | (with_reducible refine w_neq ?_) | (with_reducible refine s_eql ?_) | (with_reducible refine s_neq ?_) | ((with_reducible refine a_add64 ?h0 ?h1 ?_); (case h0 => omega); (case h1 => omega);  skip) | ((with_reducible refine a_sub64 ?h0 ?h1 ?_); (case h0 => omega); (case h1 => omega);  skip) | ((with_reducible refine a_mul64 ?h0 ?h1 ?_); (case h0 => omega); (case h1 => omega);  skip) | (with_reducible refine a_notd ?_) | (with_reducible refine a_not ?_) | (with_reducible refine a_ext0 ?_) | (with_reducible refine a_ext1 ?_) | (with_reducible refine a_ext2 ?_) | (with_reducible refine x_len ?_) | (with_reducible refine x_lens ?_) | (with_reducible refine x_eqb ?_) | (with_reducible refine x_neb ?_) | (with_reducible refine x_nilP ?_) | (with_reducible refine x_nilPn ?_) | (with_reducible refine x_nilF ?_) | (with_reducible refine x_nilFF ?_) | (with_reducible refine w_eqlL ?_) | (with_reducible refine w_neqL ?_) | (with_reducible refine s_eqlL ?_) | (with_reducible refine ifnt ?_) | (with_reducible refine ifnf ?_) | (with_reducible refine x_eqB ?_) | (with_reducible refine x_neB ?_) | (with_reducible refine x_lssL ?_) | (with_reducible refine x_gtrL ?_) | (with_reducible refine x_geqL ?_) | (with_reducible refine s_neqL ?_) | (with_reducible refine St.load h ?_) | (with_reducible refine St.loadS h ?_) | (with_reducible refine a_fld0 ?_) | (with_reducible refine St.store h fun W h => ?_) | (with_reducible refine St.storeS h fun W h => ?_) | (with_reducible refine St.alloc h fun b W h => ?_) | (with_reducible refine St.allocS h fun b W h => ?_) | (with_reducible refine a_nil ?_) | (with_reducible refine ss_load ?_) | (with_reducible refine ss_loadS ?_) | (with_reducible refine ss_eqb ?_)))
  have hnil : St w0 G (Ky (.slice none 0 0) (Ow 171 4 0 (qcells (m.take 0))) :: _) W := h.nilOw
  refine rngI (C := fun i => TnCq b m i) (fun c i => As.all False []) hI tellQ_len (l := R) ?_ ?_ ?_ ?_
  · exact St.shutE (.slice none 0 0) (St.shut2 trivial hnil.to)
  · intro i x hxi ll rec I' W kn kst h hn hk
    obtain ⟨p, hp, rfl⟩ := tellQ_at hxi
    have hil := (List.getElem?_eq_some_iff.1 hp).1
    refine app2 ?_
    refine h.allocS fun b5 W h => ?_
    refine St.storeS (cs' := [strV p.2.1, strV p.2.2.1, .bool p.2.2.2]) h fun W h => ?_
    refine ⟨h.ob (b := ll), ?_⟩
    replace h := h.putO (b := ll) (o := .loop (rec .ready none)) (.loop (rec .busy none))
    have h' := h.find (k := i) (X := fun i : Nat => TnCq b m i)
    clear h
    obtain ⟨v, h⟩ := St.openE h'
    replace h := (St.open2 h).2
    have ov : Cel1 v := .of_own (h.ow (v := v))
    refine app3 ?_
    refine h.load (h.loadS ?_)
    refine x_bld (cells := [strV p.1, strV p.2.1, strV p.2.2.1, .bool p.2.2.2].toArray) rfl ?_
    refine h.lit (vs := [.agg [strV p.1, strV p.2.1, strV p.2.2.1, .bool p.2.2.2].toArray]) (cs := [strV p.1, strV p.2.1, strV p.2.2.1, .bool p.2.2.2]) (fun u W o2 h => ?_) (by decide)
    refine St.app (v := v) h (h.osl (v := u)) (by simp [Value.oneCell']) (by unfold maxLen; omega) (by omega) fun v' W o' h _ => ?_
    have e : qcells (m.take i) ++ [strV p.1, strV p.2.1, strV p.2.2.1, .bool p.2.2.2] = qcells (m.take (i + 1)) := rc_step (f := qC) hp
    rw [e] at h
    refine h.store fun W h => ?_
    exact hn W (St.swap (St.shutE v' (St.shut2 trivial h.to)))
  · intro DD W h
    obtain ⟨v, h⟩ := St.openE h.swap
    replace h := (St.open2 h).2
    rw [List.length_map, List.take_length] at h
    (repeat (first | (with_reducible refine ift ?_) | (with_reducible refine iff' ?_) | (with_reducible refine a_lss ?_) | (with_reducible refine a_leq ?_) | (with_reducible refine a_gtr ?_) | (with_reducible refine a_geq ?_) | (with_reducible refine w_eql ?_) | (with_reducible refine w_neq ?_) | (with_reducible refine s_eql ?_) | (with_reducible refine s_neq ?_) | ((with_reducible refine a_add64 ?h0 ?h1 ?_); (case h0 => omega); (case h1 => omega);  skip) | ((with_reducible refine a_sub64 ?h0 ?h1 ?_); (case h0 => omega); (case h1 => omega);  skip) | ((with_reducible refine a_mul64 ?h0 ?h1 ?_); (case h0 => omega); (case h1 => omega);  skip) | (with_reducible refine a_notd ?_) | (with_reducible refine a_not ?_) | (with_reducible refine a_ext0 ?_) | (with_reducible refine a_ext1 ?_) | (with_reducible refine a_ext2 ?_) | (with_reducible refine x_len ?_) | (with_reducible refine x_lens ?_) | (with_reducible refine x_eqb ?_) | (with_reducible refine x_neb ?_) | (with_reducible refine x_nilP ?_) | (with_reducible refine x_nilPn ?_) | (with_reducible refine x_nilF ?_) | (with_reducible refine x_nilFF ?_) | (with_reducible refine w_eqlL ?_) | (with_reducible refine w_neqL ?_) | (with_reducible refine s_eqlL ?_) | (with_reducible refine ifnt ?_) | (with_reducible refine ifnf ?_) | (with_reducible refine x_eqB ?_) | (with_reducible refine x_neB ?_) | (with_reducible refine x_lssL ?_) | (with_reducible refine x_gtrL ?_) | (with_reducible refine x_geqL ?_) | (with_reducible refine s_neqL ?_) | (with_reducible refine St.load h ?_) | (with_reducible refine St.loadS h ?_) | (with_reducible refine a_fld0 ?_) | (with_reducible refine St.store h fun W h => ?_) | (with_reducible refine St.storeS h fun W h => ?_) | (with_reducible refine St.alloc h fun b W h => ?_) | (with_reducible refine St.allocS h fun b W h => ?_) | (with_reducible refine a_nil ?_) | (with_reducible refine ss_load ?_) | (with_reducible refine ss_loadS ?_) | (with_reducible refine ss_eqb ?_)))
    refine ⟨h.ob (b := DD), ?_⟩
    have ov : Cel1 v := .of_own (h.ow (v := v))
    replace h := h.putO (b := DD) (o := .deferred (some [])) (.deferred none)
    exact k v _ ov h.to
  · intro DD c i W hi h
    exact (St.openA h.swap).1.elim

/-- what Merge stands on -/
def ItMq (b1 b2 : Nat) (f1 f2 : Value) (A1 A2 : Value → As) (_ : Value) : As := As.all True [Ky b1 (Ob (.cells [f1].toArray 141 (0, 0))), Ky b2 (Ob (.cells [f2].toArray 141 (0, 0))), Ky f1 A1, Ky f2 A2]

theorem merge1q_itr {b1 b2 : Nat} {f1 f2 : Value} {A1 A2 : Value → As} {m1 m2 : List (Txt × Wr)} (h1 : Itr Try.prog w0 G f1 (tellQ m1) A1) (h2 : Itr Try.prog w0 G f2 (tellQ m2) A2) (hl1 : m1.length ≤ 100000) (hl2 : m2.length ≤ 100000) :
    Itr Try.prog w0 G (.func (.func 119) #[] #[.pointer (some ⟨b1, 0, none⟩), .pointer (some ⟨b2, 0, none⟩)]) (tellQ (mrg m1 m2)) (ItMq b1 b2 f1 f2 A1 A2) := by
  refine ⟨119, _, rfl, hentD _ (by kernel_rfl), fun yv C D I W RR oy hY h hd hs => ?_⟩
  show CallF Try.prog 119 #[yv, .pointer (some ⟨b1, 0, none⟩), .pointer (some ⟨b2, 0, none⟩)] W RR
  refine sh119_calls ?_
  unfold sh119
  have h := (St.open4 h.swap).2
  refine ⟨fun W' => Rec W' b1 141 [f1] ∧ Rec W' b2 141 [f2], ⟨h.drew.rc, h.drew.rc⟩, ?_⟩
  replace h := h.drew
  refine s_ld (t := 141) (cs := [f1]) (fun w hw => hw.1) rfl ?_
  refine s_ld (t := 141) (cs := [f2]) (fun w hw => hw.2) rfl ?_
  refine takenq_spec (f := f1) h1 h (by omega) fun va W oa h => ⟨⟨h.rc, h.rc⟩, ?_⟩
  refine takenq_spec (f := f2) h2 h (by omega) fun vb W ob h => ?_
  have back : ∀ (q : Nat) (E : Nat → As) (W : World), St w0 G (Ky b1 (Ob (.cells [f1].toArray 141 (0, 0))) :: Ky b2 (Ob (.cells [f2].toArray 141 (0, 0))) :: Ky f1 A1 :: Ky f2 A2 :: Ky q E :: I) W →
      St w0 G (Ky q E :: Ky (.func (.func 119) #[] #[.pointer (some ⟨b1, 0, none⟩), .pointer (some ⟨b2, 0, none⟩)] : Value) (ItMq b1 b2 f1 f2 A1 A2) :: I) W := fun q E W h => (St.shut4 (φ := True) trivial h).swap
  refine lpx (α := Nat × Nat × Nat) (fun x => [cutF va 4 x.1, cutF vb 4 x.2.1]) (fun x W => x.1 ≤ m1.length ∧ x.2.1 ≤ m2.length ∧ (∃ told, mrg m1 m2 = told ++ mrg (m1.drop x.1) (m2.drop x.2.1) ∧ told.length = x.2.2) ∧ St w0 G (Ky x.2.2 C :: Ky va (Ow 171 4 m1.length (qcells m1)) :: Ky vb (Ow 171 4 m2.length (qcells m2)) :: Ky f1 A1 :: Ky f2 A2 :: Ky b1 (Ob (.cells [f1].toArray 141 (0, 0))) :: Ky b2 (Ob (.cells [f2].toArray 141 (0, 0))) :: I) W)
    (fun x => m1.length + m2.length - (x.1 + x.2.1)) (0, 0, 0) (fun _ => rfl) rfl ⟨Nat.zero_le _, Nat.zero_le _, ⟨[], by simp, rfl⟩, h.to⟩ ?_
  clear h
  rintro next ⟨i, j, k⟩ W hnext ⟨hi, hj, ⟨told, htold, hk⟩, h⟩
  simp only at hi hj hk h htold hnext ⊢
  refine app2 ?_
  refine x_lenS ((h.osl (v := va)).cutF hi) ?_
  refine x_lenS ((h.osl (v := vb)).cutF hj) ?_
  refine a_add64 (by omega) (by omega) ?_
  refine a_gtr (ifd (fun hc => ?_) fun hc => ?_)
  · refine h.allocS fun pb W h => ?_
    refine jni (fun vs W => ∃ i' j' p, vs = [yv, cutF va 4 i', cutF vb 4 j', .pointer (some ⟨pb, 0, none⟩)] ∧ i' ≤ m1.length ∧ j' ≤ m2.length ∧ i + j < i' + j' ∧ mrg (m1.drop i) (m2.drop j) = p :: mrg (m1.drop i') (m2.drop j') ∧ St w0 G (Ky pb (Ob (.cells [strV p.1, strV p.2.1, strV p.2.2.1, .bool p.2.2.2].toArray 171 (0, 0))) :: Ky k C :: Ky va (Ow 171 4 m1.length (qcells m1)) :: Ky vb (Ow 171 4 m2.length (qcells m2)) :: Ky f1 A1 :: Ky f2 A2 :: Ky b1 (Ob (.cells [f1].toArray 141 (0, 0))) :: Ky b2 (Ob (.cells [f2].toArray 141 (0, 0))) :: I) W) ?_ ?_
    · rintro vs W _ ⟨i', j', p, rfl, hi', hj', hlt, hm, h⟩
      refine app4 ?_
      refine a_fld0 (h.load ?_)
      refine a_fld0 (ldW h.rc ?_)
      have hx : (tellQ (mrg m1 m2))[k]? = some [strV p.1, .agg (wrC p.2).toArray] := by
        rw [List.getElem?_map, htold, hm, List.getElem?_append_right (by omega), hk, Nat.sub_self]; rfl
      have hkl : k + 1 ≤ (tellQ (mrg m1 m2)).length := (List.getElem?_eq_some_iff.1 hx).1
      refine hY k _ hx (Ky pb (Ob (.cells [strV p.1, strV p.2.1, strV p.2.2.1, .bool p.2.2.2].toArray 171 (0, 0))) :: Ky va (Ow 171 4 m1.length (qcells m1)) :: Ky vb (Ow 171 4 m2.length (qcells m2)) :: Ky f1 A1 :: Ky f2 A2 :: Ky b1 (Ob (.cells [f1].toArray 141 (0, 0))) :: Ky b2 (Ob (.cells [f2].toArray 141 (0, 0))) :: I) W _ h.to (fun W h => ?_) fun W h => ?_
      · refine a_not (iff' ⟨rfl, ?_⟩)
        exact hnext (i', j', k + 1) W (by dsimp only at *; omega) ⟨hi', hj', ⟨told ++ [p], by rw [htold, hm, List.append_assoc]; rfl, by rw [List.length_append, hk]; rfl⟩, h.to⟩
      · exact a_not (ift (hs (k + 1) W hkl (back _ _ W h.to)))
    have sa : ∀ (W : World) {l' R' : List As} [Has l' va (Ow 171 4 m1.length (qcells m1)) R'], St w0 G l' W → Sl W 4 (cutF va 4 i) (m1.length - i) (qcells (m1.drop i)) := fun W l' R' _ h => by
      have := (h.osl (v := va)).cutF hi
      rwa [← qcells_drop] at this
    have sb : ∀ (W : World) {l' R' : List As} [Has l' vb (Ow 171 4 m2.length (qcells m2)) R'], St w0 G l' W → Sl W 4 (cutF vb 4 j) (m2.length - j) (qcells (m2.drop j)) := fun W l' R' _ h => by
      have := (h.osl (v := vb)).cutF hj
      rwa [← qcells_drop] at this
    refine ⟨fun W' => W' = _, rfl, ?_⟩
    replace h := h.drew
    refine x_lenSs (sb _ h) ?_
    refine s_eql (ifd (fun hc1 => ?_) fun hc1 => ?_)
    · have hil : i < m1.length := by omega
      obtain ⟨px, hpx⟩ : ∃ p, m1[i]? = some p := ⟨_, List.getElem?_eq_getElem hil⟩
      have hx0 : (m1.drop i)[0]? = some px := by rw [List.getElem?_drop]; exact hpx
      have ed : m1.drop i = px :: m1.drop (i + 1) := by rw [List.drop_eq_getElem_cons hil, (List.getElem?_eq_some_iff.1 hpx).2]
      have ey : m2.drop j = [] := List.drop_of_length_le (by omega)
      refine ⟨fun W' => W' = _, rfl, ?_⟩
      replace h := h.drew
      refine qcells_ssl (i := 0) (sa _ h) (fun _ e => by subst e; exact sa _ h) (by omega) hx0 ?_
      refine x_cutF (h.osl (v := va)) (by omega) ?_
      refine h.storeS (cs' := [strV px.1, strV px.2.1, strV px.2.2.1, .bool px.2.2.2]) fun W h => ?_
      exact ⟨i + 1, j, px, rfl, by omega, by omega, by omega, by rw [ed, mrg_x (.inl ey)], h.to⟩
    · have hjl : j < m2.length := by omega
      obtain ⟨py, hpy⟩ : ∃ p, m2[j]? = some p := ⟨_, List.getElem?_eq_getElem hjl⟩
      have hy0 : (m2.drop j)[0]? = some py := by rw [List.getElem?_drop]; exact hpy
      have ey : m2.drop j = py :: m2.drop (j + 1) := by rw [List.drop_eq_getElem_cons hjl, (List.getElem?_eq_some_iff.1 hpy).2]
      refine x_lenSs (sa _ h) ?_
      refine a_gtr (ifd (fun hc2 => ?_) fun hc2 => ?_)
      · have hil : i < m1.length := by omega
        obtain ⟨px, hpx⟩ : ∃ p, m1[i]? = some p := ⟨_, List.getElem?_eq_getElem hil⟩
        have hx0 : (m1.drop i)[0]? = some px := by rw [List.getElem?_drop]; exact hpx
        have ed : m1.drop i = px :: m1.drop (i + 1) := by rw [List.drop_eq_getElem_cons hil, (List.getElem?_eq_some_iff.1 hpx).2]
        refine x_sfld (i := 0) (sa _ h) (fun _ e => by subst e; exact sa _ h) (by omega) (by decide) ((qcells_get hx0 (j := 0) (by decide)).trans rfl) ?_
        refine x_sfld (i := 0) (sb _ h) (fun _ e => by subst e; exact sb _ h) (by omega) (by decide) ((qcells_get hy0 (j := 0) (by decide)).trans rfl) ?_
        refine x_lssL (ifb (fun hlt => ?_) fun hge => ?_)
        · skip
          refine ⟨fun W' => W' = _, rfl, ?_⟩
          replace h := h.drew
          refine qcells_ssl (i := 0) (sa _ h) (fun _ e => by subst e; exact sa _ h) (by omega) hx0 ?_
          refine x_cutF (h.osl (v := va)) (by omega) ?_
          refine h.storeS (cs' := [strV px.1, strV px.2.1, strV px.2.2.1, .bool px.2.2.2]) fun W h => ?_
          exact ⟨i + 1, j, px, rfl, by omega, by omega, by omega, by rw [ed, mrg_x (.inr ⟨py, _, ey, hlt⟩)], h.to⟩
        · refine jni (fun vs W => ∃ i' j' p, vs = [yv, cutF va 4 i', cutF vb 4 j', .pointer (some ⟨pb, 0, none⟩)] ∧ i' ≤ m1.length ∧ j' ≤ m2.length ∧ i + j < i' + j' ∧ mrg (m1.drop i) (m2.drop j) = p :: mrg (m1.drop i') (m2.drop j') ∧ St w0 G (Ky pb (Ob (.cells [strV p.1, strV p.2.1, strV p.2.2.1, .bool p.2.2.2].toArray 171 (0, 0))) :: Ky k C :: Ky va (Ow 171 4 m1.length (qcells m1)) :: Ky vb (Ow 171 4 m2.length (qcells m2)) :: Ky f1 A1 :: Ky f2 A2 :: Ky b1 (Ob (.cells [f1].toArray 141 (0, 0))) :: Ky b2 (Ob (.cells [f2].toArray 141 (0, 0))) :: I) W) (fun vs W _ ⟨i', j', p, e, h⟩ => by subst e; exact app4 ⟨i', j', p, rfl, h⟩) ?_
          refine ⟨fun W' => W' = _, rfl, ?_⟩
          replace h := h.drew
          refine x_lenSs (sa _ h) ?_
          refine a_gtr (ifd_pos (by omega) ?_)
          refine x_sfld (i := 0) (sa _ h) (fun _ e => by subst e; exact sa _ h) (by omega) (by decide) ((qcells_get hx0 (j := 0) (by decide)).trans rfl) ?_
          refine x_sfld (i := 0) (sb _ h) (fun _ e => by subst e; exact sb _ h) (by omega) (by decide) ((qcells_get hy0 (j := 0) (by decide)).trans rfl) ?_
          refine s_eqlL (ifd (fun heq => ?_) fun hne => ?_)
          · skip
            refine ⟨fun W' => W' = _, rfl, ?_⟩
            replace h := h.drew
            refine qcells_ssl (i := 0) (sb _ h) (fun _ e => by subst e; exact sb _ h) (by omega) hy0 ?_
            refine x_cutF (h.osl (v := va)) (by omega) ?_
            refine x_cutF (h.osl (v := vb)) (by omega) ?_
            refine h.storeS (cs' := [strV py.1, strV py.2.1, strV py.2.2.1, .bool py.2.2.2]) fun W h => ?_
            exact ⟨i + 1, j + 1, py, rfl, by omega, by omega, by omega, by rw [ed, ey, mrg_b heq], h.to⟩
          · skip
            refine ⟨fun W' => W' = _, rfl, ?_⟩
            replace h := h.drew
            refine qcells_ssl (i := 0) (sb _ h) (fun _ e => by subst e; exact sb _ h) (by omega) hy0 ?_
            refine x_cutF (h.osl (v := vb)) (by omega) ?_
            refine h.storeS (cs' := [strV py.1, strV py.2.1, strV py.2.2.1, .bool py.2.2.2]) fun W h => ?_
            exact ⟨i, j + 1, py, rfl, by omega, by omega, by omega, by rw [ey, mrg_y (.inr ⟨px, _, ed, hge, hne⟩)], h.to⟩
      · have ex : m1.drop i = [] := List.drop_of_length_le (by omega)
        refine jni (fun vs W => ∃ i' j' p, vs = [yv, cutF va 4 i', cutF vb 4 j', .pointer (some ⟨pb, 0, none⟩)] ∧ i' ≤ m1.length ∧ j' ≤ m2.length ∧ i + j < i' + j' ∧ mrg (m1.drop i) (m2.drop j) = p :: mrg (m1.drop i') (m2.drop j') ∧ St w0 G (Ky pb (Ob (.cells [strV p.1, strV p.2.1, strV p.2.2.1, .bool p.2.2.2].toArray 171 (0, 0))) :: Ky k C :: Ky va (Ow 171 4 m1.length (qcells m1)) :: Ky vb (Ow 171 4 m2.length (qcells m2)) :: Ky f1 A1 :: Ky f2 A2 :: Ky b1 (Ob (.cells [f1].toArray 141 (0, 0))) :: Ky b2 (Ob (.cells [f2].toArray 141 (0, 0))) :: I) W) (fun vs W _ ⟨i', j', p, e, h⟩ => by subst e; exact app4 ⟨i', j', p, rfl, h⟩) ?_
        refine ⟨fun W' => W' = _, rfl, ?_⟩
        replace h := h.drew
        refine x_lenSs (sa _ h) ?_
        refine a_gtr (ifd_neg (by omega) ?_)
        refine ⟨fun W' => W' = _, rfl, ?_⟩
        replace h := h.drew
        refine qcells_ssl (i := 0) (sb _ h) (fun _ e => by subst e; exact sb _ h) (by omega) hy0 ?_
        refine x_cutF (h.osl (v := vb)) (by omega) ?_
        refine h.storeS (cs' := [strV py.1, strV py.2.1, strV py.2.2.1, .bool py.2.2.2]) fun W h => ?_
        exact ⟨i, j + 1, py, rfl, by omega, by omega, by omega, by rw [ey, mrg_y (.inl ex)], h.to⟩
  · have ex : m1.drop i = [] := List.drop_of_length_le (by omega)
    have ey : m2.drop j = [] := List.drop_of_length_le (by omega)
    have hkl : (tellQ (mrg m1 m2)).length = k := by
      rw [List.length_map, htold, ex, ey]; simp [mrg, hk]
    exact hd W (by rw [hkl]; exact back _ _ W h.to)
theorem mergeq_spec {R1 : List As} {f1 f2 : Value} {A1 A2 : Value → As} {m1 m2 : List (Txt × Wr)} [i : Has l f1 A1 R1] [j : Has R1 f2 A2 R] (h1 : Itr Try.prog w0 G f1 (tellQ m1) A1) (h2 : Itr Try.prog w0 G f2 (tellQ m2) A2) (h : St w0 G l W) (hl1 : m1.length ≤ 100000) (hl2 : m2.length ≤ 100000)
    (k : ∀ f b1 b2 W', Itr Try.prog w0 G f (tellQ (mrg m1 m2)) (ItMq b1 b2 f1 f2 A1 A2) → St w0 G (Ky f (ItMq b1 b2 f1 f2 A1 A2) :: R) W' → RR f W') :
    CallF Try.prog 94 #[f1, f2] W RR := by
  refine sh94_calls ?_
  unfold sh94
  have o1 : Cel1 f1 := by obtain ⟨_, _, rfl, _⟩ := id h1; exact ⟨rfl⟩
  have o2 : Cel1 f2 := by obtain ⟨_, _, rfl, _⟩ := id h2; exact ⟨rfl⟩
  replace h : St w0 G (Ky f1 A1 :: Ky f2 A2 :: R) W := by
    obtain ⟨F, hF, hG⟩ := h.own
    exact { h with own := ⟨F, sepL_mono j.to (i.to F W hF), hG⟩ }
  refine h.boxV fun b1 W h => ?_
  refine h.boxV fun b2 W h => ?_
  refine v_func ?_
  exact k _ b1 b2 W (merge1q_itr h1 h2 hl1 hl2) (St.shut4 (φ := True) trivial h.to)
end
end Go.Proofs.Ytffnabbchghokaa
