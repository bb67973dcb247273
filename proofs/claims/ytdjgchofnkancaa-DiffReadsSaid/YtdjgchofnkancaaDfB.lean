/-
  DIFFERENCES: lists of pairs and of changes; what is told first, taken: what each function answers.
-/
import Derived.Test.YtdjgchofnkancaaDfAss
import Derived.Test.YtdjgchofnkancaaOmKp
import Derived.Laws.StructEq
namespace Go.Proofs.Ytdjgchofnkancaa
open Go Go.Ez Go.RowKit
set_option linter.unusedSimpArgs false
set_option linter.unusedVariables false

abbrev Ch := Txt × Txt × Bool
def Ch.cells (d : Ch) : List Value := [strV d.1, strV d.2.1, .bool d.2.2]
def ccells (ds : List Ch) : List Value := ds.flatMap Ch.cells
instance {d : Ch} : CellsL 3 [.agg (Ch.cells d).toArray] (Ch.cells d) := inferInstanceAs (CellsL 3 [.agg [strV d.1, strV d.2.1, .bool d.2.2].toArray] [strV d.1, strV d.2.1, .bool d.2.2])
instance {d : Ch} : OneL (Ch.cells d) := inferInstanceAs (OneL [strV d.1, strV d.2.1, .bool d.2.2])
instance {d : Ch} : Len (Ch.cells d) 3 := inferInstanceAs (Len [strV d.1, strV d.2.1, .bool d.2.2] 3)
theorem ccells_get : ∀ {l : List Ch} {i j : Nat} {o : Ch}, l[i]? = some o → j < 3 → (ccells l)[i * 3 + j]? = (Ch.cells o)[j]?
  | o :: l, 0, j, _, h, hj => by
    cases h
    unfold ccells
    rw [List.flatMap_cons, Nat.zero_mul, Nat.zero_add, List.getElem?_append_left (by show j < 3; exact hj)]
  | o :: l, i + 1, j, q, h, hj => by
    have := ccells_get (l := l) (i := i) (by simpa using h) hj
    unfold ccells at this ⊢
    rw [List.flatMap_cons, List.getElem?_append_right (by show 3 ≤ _; omega)]
    show (l.flatMap Ch.cells)[(i + 1) * 3 + j - 3]? = _
    rw [show (i + 1) * 3 + j - 3 = i * 3 + j by omega]
    exact this
theorem ccells_append (a b : List Ch) : ccells (a ++ b) = ccells a ++ ccells b := by simp [ccells]
theorem ccells_length : ∀ ds : List Ch, (ccells ds).length = ds.length * 3
  | [] => rfl
  | d :: ds => by
    have := ccells_length ds
    unfold ccells at this ⊢
    rw [List.flatMap_cons, List.length_append, this, List.length_cons]
    show 3 + _ = _
    omega
theorem ccells_take : ∀ (ds : List Ch) (i : Nat), ccells (ds.take i) = (ccells ds).take (i * 3)
  | [], i => by simp [ccells]
  | d :: ds, 0 => by simp [ccells]
  | d :: ds, i + 1 => by
    have := ccells_take ds i
    unfold ccells at this ⊢
    rw [List.take_succ_cons, List.flatMap_cons, List.flatMap_cons, this, show (i + 1) * 3 = i * 3 + 1 + 1 + 1 by omega]
    show [_, _, _] ++ _ = (_ :: _ :: _ :: _ : List Value).take (i * 3 + 1 + 1 + 1)
    rw [List.take_succ_cons, List.take_succ_cons, List.take_succ_cons]
    rfl
theorem ccells_one (ds : List Ch) : ∀ c ∈ ccells ds, c.oneCell' = true := by
  intro c hc
  unfold ccells at hc
  rw [List.mem_flatMap] at hc
  obtain ⟨d, _, hd⟩ := hc
  simp only [Ch.cells, List.mem_cons, List.not_mem_nil, or_false] at hd
  rcases hd with rfl | rfl | rfl <;> rfl
theorem ccells_step {ds : List Ch} {i : Nat} {d : Ch} (h : ds[i]? = some d) : ccells (ds.take i) ++ Ch.cells d = ccells (ds.take (i + 1)) := by
  rw [List.take_add_one, h, ccells_append]
  show _ = _ ++ ccells [d]
  simp [ccells]

/-- a struct of a slice, loaded where memory may be drawn -/
theorem x_ssl {S' : World → Prop} {w1 : World} {v : Value} {n i sz : Nat} {K : Value → Prop} {k0 : IntKind} {t e : TypeId} {bytes : Nat} {z : Value} {zs cs xs : List Value} [S : SlT Try.prog t e sz bytes z] [T : TyS Try.prog e sz zs] (hv : Sl w1 sz v n cs) (hS : ∀ w, S' w → Sl w sz v n cs) (hil : i < n)
    (hx : ∀ (j : Nat) (u : Value), xs[j]? = some u → cs[i * sz + j]? = some u) (hxl : xs.length = sz) (hpos : 0 < sz) (k : K (.agg xs.toArray)) :
    RunA Try.prog (Instr.indexAt t v (.int k0 (i : Int))) fun q => RunS Try.prog S' (Instr.loadAt e q) K := by
  obtain ⟨u0, hu0⟩ : ∃ u, xs[0]? = some u := ⟨_, List.getElem?_eq_getElem (by omega)⟩
  have hg := hx 0 u0 hu0
  obtain ⟨ao, cap, rfl, hnc, hl, hc, _⟩ := hv
  obtain ⟨b, o, rfl, _⟩ := hc _ _ hg
  refine a_indexAt S.el.und S.el.size (by omega) (by omega) ?_
  rw [Int.toNat_natCast]
  refine ⟨_, fun w hw => ?_, k⟩
  obtain ⟨ao', cap', e1, _, _, hc', _⟩ := hS w hw
  cases e1
  subst hxl
  obtain ⟨v', h1, h2⟩ := x_lds (P := Try.prog) (W := w) (e := e) (b := b) (o := o + i * xs.length) (cs := xs) (K := fun v => v = .agg xs.toArray) rfl (fun j u hu => by
    obtain ⟨b', o', e2, e3⟩ := hc' _ _ (hx j u hu)
    cases e2
    rw [Nat.add_assoc]; exact e3) rfl
  rw [h1, h2]

theorem fieldsOf_of {P : Program} {t : TypeId} {fs : Array Field} (h : P.underlying t = some (.struct fs)) : P.fieldsOf t = fs := by unfold Program.fieldsOf; rw [h]
theorem s_neqCh {S : World → Prop} {K : Value → Prop} {a b : Ch} {X Y : Operand} (h : K (.bool (decide (a ≠ b)))) : RunS Try.prog S (bin .neq 102 X Y (.agg (Ch.cells a).toArray) (.agg (Ch.cells b).toArray)) K := by
  refine ⟨_, fun w _ => ?_, h⟩
  have hf := fieldsOf_of Try.underlying102
  have ht : Try.prog.underlying 102 = some (.struct (Try.prog.fieldsOf 102)) := Try.underlying102.trans (by rw [hf])
  have hg : Try.prog.eqGuardType Try.prog.depth 102 = false := by kernel_rfl
  have hs : Try.prog.stoodInHeld 102 = false := by kernel_rfl
  show (do eqGuard .neq 102 X Y (.agg (Ch.cells a).toArray) (.agg (Ch.cells b).toArray); binOp .neq 102 (.agg (Ch.cells a).toArray) (.agg (Ch.cells b).toArray) : Sem Value).run Try.prog w = _
  simp only [Sem.run_bind, run_eqGuard_agg w .neq 102 X Y _ _ hg, Result.andThen, run_neq_struct, run_equalIn_agg w 9999 102 _ _ ht hs, hf]
  have es : ∀ (d : Nat) (a b : List UInt8), (Op.equalIn (d + 1) 9 (strV a) (strV b)).run Try.prog w = .ok (decide (a = b)) w := fun d a b => by
    rw [run_equalIn_string w d 9 _ _ Try.underlying9]
    rw [bytes_eq]
  have eb : ∀ (d : Nat) (a b : Bool), (Op.equalIn (d + 1) 4 (.bool a) (.bool b)).run Try.prog w = .ok (decide (a = b)) w := fun d a b => by
    rw [run_equalIn_bool' w d 4 _ _ Try.underlying4]
    rfl
  obtain ⟨a1, a2, a3⟩ := a
  obtain ⟨b1, b2, b3⟩ := b
  by_cases h1 : a1 = b1 <;> by_cases h2 : a2 = b2 <;> by_cases h3 : a3 = b3 <;>
    simp [Op.eqFields, go_sem, es 9998, eb 9998, h1, h2, h3, Result.andThen, Ch.cells]

section
variable {w0 W : World} {l R : List As} {RR : Value → World → Prop}

/-- hbllaw21.few -/
theorem few_spec {ps : List (Txt × Txt)} {v : Value} {n : Nat} (hv : Sl W 2 v n (pcells ps)) (hn : n = ps.length) (k : ∀ b W', Below W.heap.size W W' → (b = true → ps.length ≤ 200) → RR (.bool b) W') :
    CallF Try.prog 52 #[v] W RR := by
  refine sh52_calls ?_
  unfold sh52
  subst hn
  refine jni (fun vs W' => vs = [v] ∧ Below W.heap.size W W') ?_ ?_
  · rintro vs W' _ ⟨rfl, hb⟩
    refine app1 ?_
    refine x_lenS (hv.below hb) ?_
    refine a_leq ?_
    exact k _ W' hb fun h => by have := of_decide_eq_true h; omega
  refine lpx (α := Nat × Nat) (fun x => [nV .i64 x.1, nV .i64 x.2]) (fun x W' => Below W.heap.size W W' ∧ x.1 ≤ 20000 ∧ x.2 ≤ ps.length) (fun x => ps.length - x.2) (0, 0) (fun _ => rfl) rfl ⟨Below.refl _ _, Nat.zero_le _, Nat.zero_le _⟩ ?_
  rintro next ⟨s, i⟩ W' hnext ⟨hb, hs, hi⟩
  simp only at hs hi hnext
  refine app2 ?_
  refine x_lenS (hv.below hb) ?_
  refine a_lss (ifd (fun hc => ?_) fun hc => ⟨rfl, hb⟩)
  refine a_lss (ifd (fun hc2 => ?_) fun hc => ⟨rfl, hb⟩)
  obtain ⟨p, hp⟩ : ∃ p, ps[i]? = some p := ⟨_, List.getElem?_eq_getElem (by omega)⟩
  refine ⟨fun W2 => W2 = _, rfl, ?_⟩
  have hb2 : Below W.heap.size W W'.drew := hb.drew
  refine x_sfld (hv.below hb2) (fun _ e => by subst e; exact hv.below hb2) (by omega) (by decide) (pcells_get hp).1 ?_
  refine x_lens ?_
  refine s_min ?_
  refine a_add64 (by omega) (by omega) ?_
  refine x_sfld (hv.below hb2) (fun _ e => by subst e; exact hv.below hb2) (by omega) (by decide) (pcells_get hp).2 ?_
  refine x_lens ?_
  refine s_min ?_
  refine a_add64 (by omega) (by omega) ?_
  refine a_gtr (ifd (fun hc3 => k false _ hb2 fun h => by cases h) fun hc3 => ?_)
  refine a_add64 (by omega) (by omega) ⟨rfl, ?_⟩
  rw [show ((s : Int) + min ((p.1.length : Nat) : Int) 20001 + min ((p.2.length : Nat) : Int) 20001) = ((s + min p.1.length 20001 + min p.2.length 20001 : Nat) : Int) by omega, show ((i : Int) + 1) = ((i + 1 : Nat) : Int) by push_cast; rfl]
  exact hnext (s + min p.1.length 20001 + min p.2.length 20001, i + 1) _ (by simp only; omega) ⟨hb2, by simp only; omega, by simp only; omega⟩

/-- hbllaw21.Map -/
theorem map21_spec {ps : List (Txt × Txt)} {v : Value} {n : Nat} (hv : Sl W 2 v n (pcells ps)) (hn : n = ps.length) (hl : ps.length ≤ 1000) (k : ∀ v' W', St W G0 [Ky v' (Mpss (fmap ps))] W' → RR v' W') :
    CallF Try.prog 53 #[v] W RR := by
  refine sh53_calls ?_
  unfold sh53
  subst hn
  have h := St.start W
  refine newss_spec h fun mv W' h => ?_
  obtain ⟨b, rfl, _⟩ := h.ptrM (v := mv)
  (repeat (first | (with_reducible refine ift ?_) | (with_reducible refine iff' ?_) | (with_reducible refine a_lss ?_) | (with_reducible refine a_leq ?_) | (with_reducible refine a_gtr ?_) | (with_reducible refine a_geq ?_) | (with_reducible refine w_eql ?_) | (with_reducible refine w_neq ?_) | (with_reducible refine s_eql ?_) | (with_reducible refine s_neq ?_) | ((with_reducible refine a_add64 ?h0 ?h1 ?_); (case h0 => omega); (case h1 => omega);  skip) | ((with_reducible refine a_sub64 ?h0 ?h1 ?_); (case h0 => omega); (case h1 => omega);  skip) | ((with_reducible refine a_mul64 ?h0 ?h1 ?_); (case h0 => omega); (case h1 => omega);  skip) | (with_reducible refine a_notd ?_) | (with_reducible refine a_not ?_) | (with_reducible refine a_ext0 ?_) | (with_reducible refine a_ext1 ?_) | (with_reducible refine a_ext2 ?_) | (with_reducible refine x_len ?_) | (with_reducible refine x_lens ?_) | (with_reducible refine x_eqb ?_) | (with_reducible refine x_neb ?_) | (with_reducible refine x_nilP ?_) | (with_reducible refine x_nilPn ?_) | (with_reducible refine x_nilF ?_) | (with_reducible refine x_nilFF ?_) | (with_reducible refine w_eqlL ?_) | (with_reducible refine w_neqL ?_) | (with_reducible refine s_eqlL ?_) | (with_reducible refine ifnt ?_) | (with_reducible refine ifnf ?_) | (with_reducible refine x_eqB ?_) | (with_reducible refine x_neB ?_) | (with_reducible refine x_lssL ?_) | (with_reducible refine x_gtrL ?_) | (with_reducible refine x_geqL ?_) | (with_reducible refine s_neqL ?_) | (with_reducible refine St.load h ?_) | (with_reducible refine St.loadS h ?_) | (with_reducible refine a_fld0 ?_) | (with_reducible refine St.store h fun W h => ?_) | (with_reducible refine St.storeS h fun W h => ?_) | (with_reducible refine St.alloc h fun b W h => ?_) | (with_reducible refine St.allocS h fun b W h => ?_) | (with_reducible refine a_nil ?_) | (with_reducible refine ss_load ?_) | (with_reducible refine ss_loadS ?_) | (with_reducible refine ss_eqb ?_)))
  refine iff' ?_
  refine lpx (α := Nat) (fun i => [nV .i64 i]) (fun i W' => i ≤ ps.length ∧ St W G0 [Ky (.pointer (some ⟨b, 0, none⟩) : Value) (Mpss (fmap (ps.take i)))] W') (fun i => ps.length - i) 0 (fun _ => rfl) rfl ⟨Nat.zero_le _, h⟩ ?_
  clear h
  rintro next i W' hnext ⟨hi, h⟩
  refine app1 ?_
  have hml := fmap_len (ps.take i)
  rw [List.length_take] at hml
  refine x_lenS (h.sl0 hv) ?_
  refine a_lss (ifd (fun hc => ?_) fun hc => ?_)
  · obtain ⟨p, hp⟩ : ∃ p, ps[i]? = some p := ⟨_, List.getElem?_eq_getElem (by omega)⟩
    refine ⟨fun W2 => W2 = _, rfl, ?_⟩
    replace h := h.drew
    refine x_sfld (h.sl0 hv) (fun _ e => by subst e; exact h.sl0 hv) (by omega) (by decide) (pcells_get hp).1 ?_
    refine x_sfld (h.sl0 hv) (fun _ e => by subst e; exact h.sl0 hv) (by omega) (by decide) (pcells_get hp).2 ?_
    refine putss_spec (v := .pointer (some ⟨b, 0, none⟩)) (k := p.1) (x := p.2) h (by omega) fun W' h => ?_
    refine a_add64 (by omega) (by omega) ⟨rfl, rfl, ?_⟩
    rw [show ((i : Int) + 1) = ((i + 1 : Nat) : Int) by push_cast; rfl]
    refine hnext (i + 1) W' (by omega) ⟨by omega, ?_⟩
    rw [List.take_add_one, hp]
    rw [show (some p).toList = [p] from rfl, fmap_snoc]
    exact h
  · have hil : i = ps.length := by omega
    subst hil
    rw [List.take_length] at h
    exact k _ W' h

/-- hbllaw21.Changes -/
theorem changes_spec {ds : List Ch} {v : Value} {n : Nat} (hv : Sl W 3 v n (ccells ds)) (hn : n = ds.length) (hl : ds.length ≤ 100000) (k : ∀ v' W', Cel1 v' → St W G0 [Ky v' (Ow 102 3 ds.length (ccells ds))] W' → RR v' W') :
    CallF Try.prog 55 #[v] W RR := by
  refine sh55_calls ?_
  unfold sh55
  subst hn
  have h : St W G0 [Ky (.slice none 0 0 : Value) (Ow 102 3 0 (ccells (ds.take 0)))] W := (St.start W).nilOw
  refine lpx (α := Value × Nat) (fun x => [x.1, nV .i64 x.2]) (fun x W' => x.2 ≤ ds.length ∧ St W G0 [Ky x.1 (Ow 102 3 x.2 (ccells (ds.take x.2)))] W') (fun x => ds.length - x.2) (.slice none 0 0, 0) (fun _ => rfl) rfl ⟨Nat.zero_le _, h⟩ ?_
  clear h
  rintro next ⟨u, i⟩ W' hnext ⟨hi, h⟩
  simp only at hi h hnext
  refine app2 ?_
  refine x_lenS (h.sl0 hv) ?_
  refine a_lss (ifd (fun hc => ?_) fun hc => ?_)
  · obtain ⟨d, hd⟩ : ∃ d, ds[i]? = some d := ⟨_, List.getElem?_eq_getElem (by omega)⟩
    refine ⟨fun W2 => W2 = _, rfl, ?_⟩
    replace h := h.drew
    refine x_sfld (h.sl0 hv) (fun _ e => by subst e; exact h.sl0 hv) (by omega) (by decide) ((ccells_get hd (by decide)).trans rfl) ?_
    refine x_sfld (h.sl0 hv) (fun _ e => by subst e; exact h.sl0 hv) (by omega) (by decide) ((ccells_get hd (by decide)).trans rfl) ?_
    refine x_sfld (h.sl0 hv) (fun _ e => by subst e; exact h.sl0 hv) (by omega) (by decide) ((ccells_get hd (by decide)).trans rfl) ?_
    refine x_bld (cells := (Ch.cells d).toArray) rfl ?_
    refine h.lit (vs := [.agg (Ch.cells d).toArray]) (cs := Ch.cells d) (fun u2 W o2 h => ?_) (by decide)
    refine St.app (v := u) h (h.osl (v := u2)) (by simp [Ch.cells, Value.oneCell']) (by unfold maxLen; omega) (by omega) fun v' W o' h _ => ?_
    rw [ccells_step hd] at h
    refine a_add64 (by omega) (by omega) ⟨rfl, ?_⟩
    rw [show ((i : Int) + 1) = ((i + 1 : Nat) : Int) by push_cast; rfl]
    exact hnext (v', i + 1) W (by simp only; omega) ⟨by simp only; omega, h.to⟩
  · have hil : i = ds.length := by omega
    subst hil
    rw [List.take_length] at h
    have o : Cel1 u := .of_own (h.ow (v := u))
    exact k u W' o h

/-- hblref20.SameChanges -/
theorem same_spec {ds es : List Ch} {v u : Value} {n m : Nat} (hv : Sl W 3 v n (ccells ds)) (hn : n = ds.length) (hu : Sl W 3 u m (ccells es)) (hm : m = es.length) (hl : ds.length ≤ 100000) (k : ∀ W', Below W.heap.size W W' → RR (.bool (decide (ds = es))) W') :
    CallF Try.prog 58 #[v, u] W RR := by
  refine sh58_calls ?_
  unfold sh58
  subst hn hm
  refine x_lenS hv ?_
  refine x_lenS hu ?_
  refine w_neq (ifd (fun hc => ?_) fun hc => ?_)
  · have := k W (Below.refl _ _)
    rw [decide_eq_false (fun e => hc (by rw [e]))] at this
    exact this
  have hel : ds.length = es.length := by omega
  refine lpx (α := Nat) (fun i => [nV .i64 i]) (fun i W' => i ≤ ds.length ∧ ds.take i = es.take i ∧ Below W.heap.size W W') (fun i => ds.length - i) 0 (fun _ => rfl) rfl ⟨Nat.zero_le _, rfl, Below.refl _ _⟩ ?_
  rintro next i W' hnext ⟨hi, he, hb⟩
  refine app1 ?_
  refine x_lenS (hv.below hb) ?_
  refine a_lss (ifd (fun hc => ?_) fun hc => ?_)
  · obtain ⟨d, hd⟩ : ∃ d, ds[i]? = some d := ⟨_, List.getElem?_eq_getElem (by omega)⟩
    obtain ⟨e, hee⟩ : ∃ d, es[i]? = some d := ⟨_, List.getElem?_eq_getElem (by omega)⟩
    have cg : ∀ {l : List Ch} {o : Ch}, l[i]? = some o → ∀ (j : Nat) (u : Value), (Ch.cells o)[j]? = some u → (ccells l)[i * 3 + j]? = some u := fun {l o} ho j u hu => by
      have hj : j < 3 := by have := (List.getElem?_eq_some_iff.1 hu).1; exact this
      exact (ccells_get ho hj).trans hu
    refine ⟨fun W2 => W2 = _, rfl, ?_⟩
    have hb2 : Below W.heap.size W W'.drew := hb.drew
    refine x_ssl (hv.below hb2) (fun _ e => by subst e; exact hv.below hb2) (by omega) (cg hd) rfl (by decide) ?_
    refine x_ssl (hu.below hb2) (fun _ e => by subst e; exact hu.below hb2) (by omega) (cg hee) rfl (by decide) ?_
    refine s_neqCh (ifd (fun hne => ?_) fun heq => ?_)
    · have := k _ hb2
      rw [decide_eq_false (fun e => hne (by rw [e, hee] at hd; cases hd; rfl))] at this
      exact this
    · have heq : d = e := Classical.not_not.1 heq
      refine a_add64 (by omega) (by omega) ⟨rfl, rfl, ?_⟩
      rw [show ((i : Int) + 1) = ((i + 1 : Nat) : Int) by push_cast; rfl]
      refine hnext (i + 1) _ (by omega) ⟨by omega, ?_, hb2⟩
      rw [List.take_add_one, List.take_add_one, hd, hee, he, heq]
  · have hil : i = ds.length := by omega
    subst hil
    rw [List.take_length, hel, List.take_length] at he
    have := k _ hb
    rw [decide_eq_true he] at this
    exact this

/-- what ranged has taken -/
def RgC (bn bl : Nat) (n : Int) (ds : List Ch) (i : Nat) : As := As.ex fun v : Value => As.all True [Ky bn (Ob (.cells [(.int .i64 n : Value)].toArray 3 (0, 0))), Ky bl (Ob (.cells [v].toArray 92 (0, 0))), Ky v (Ow 105 3 i (ccells (ds.take i)))]

/-- hbllaw21.ranged -/
theorem ranged_spec {G : Nat → Prop} {f : Value} {A : Value → As} {ds : List Ch} {n : Int} [i : Has l f A R] (hI : Itr Try.prog w0 G f (tellCss ds) A) (h : St w0 G l W) (hks : ds.length ≤ 100000)
    (k : ∀ v W', Cel1 v → St w0 G (Ky v (Ow 105 3 (ds.take n.toNat).length (ccells (ds.take n.toNat))) :: Ky f A :: R) W' → RR v W') :
    CallF Try.prog 56 #[f, .int .i64 n] W RR := by
  refine sh56_calls ?_
  unfold sh56
  obtain ⟨gf, lb, rfl, _⟩ := id hI
  replace h := h.find (k := (.func (.func gf) #[] lb : Value)) (X := A)
  refine h.boxV fun bn W h => ?_
  refine h.alloc fun bl W h => ?_
  (repeat (first | (with_reducible refine ift ?_) | (with_reducible refine iff' ?_) | (with_reducible refine a_lss ?_) | (with_reducible refine a_leq ?_) | (with_reducible refine a_gtr ?_) | (with_reducible refine a_geq ?_) | (with_reducible refine w_eql ?_) | (with_reducible refine w_neq ?_) | (with_reducible refine s_eql ?_) | (with_reducible refine s_neq ?_) | ((with_reducible refine a_add64 ?h0 ?h1 ?_); (case h0 => omega); (case h1 => omega);  skip) | ((with_reducible refine a_sub64 ?h0 ?h1 ?_); (case h0 => omega); (case h1 => omega);  skip) | ((with_reducible refine a_mul64 ?h0 ?h1 ?_); (case h0 => omega); (case h1 => omega);  skip) | (with_reducible refine a_notd ?_) | (with_reducible refine a_not ?_) | (with_reducible refine a_ext0 ?_) | (with_reducible refine a_ext1 ?_) | (with_reducible refine a_ext2 ?_) | (with_reducible refine x_len ?_) | (with_reducible refine x_lens ?_) | (with_reducible refine x_eqb ?_) | (with_reducible refine x_neb ?_) | (with_reducible refine x_nilP ?_) | (with_reducible refine x_nilPn ?_) | (with_reducible refine x_nilF ?_) | (with_reducible refine x_nilFF ?_) | (with_reducible refine w_eqlL ?_) | (with_reducible refine w_neqL ?_) | (with_reducible refine s_eqlL ?_) | (with_reducible refine ifnt ?_) | (with_reducible refine ifnf ?_) | (with_reducible refine x_eqB ?_) | (with_reducible refine x_neB ?_) | (with_reducible refine x_lssL ?_) | (with_reducible refine x_gtrL ?_) | (with_reducible refine x_geqL ?_) | (with_reducible refine s_neqL ?_) | (with_reducible refine St.load h ?_) | (with_reducible refine St.loadS h ?_) | (with_reducible refine a_fld0 ?_) | (with_reducible refine St.store h fun W h => ?_) | (with_reducible refine St.storeS h fun W h => ?_) | (with_reducible refine St.alloc h fun b W h => ?_) | (with_reducible refine St.allocS h fun b W h => ?_) | (with_reducible refine a_nil ?_) | (with_reducible refine ss_load ?_) | (with_reducible refine ss_loadS ?_) | (with_reducible refine ss_eqb ?_)))
  refine ifd (fun hc => ?_) fun hc => ?_
  · have e : n.toNat = 0 := by omega
    simp only [e, List.take_zero, List.length_nil, show ccells [] = [] from rfl] at k
    exact k _ W ⟨rfl⟩ (h.nilOw (e := 105) (sz := 3)).to
  have hlen : ∀ x ∈ tellCss ds, x.length = 1 := by
    intro x hx
    obtain ⟨k, _, rfl⟩ := List.mem_map.1 hx
    rfl
  have hnil : St w0 G (Ky (.slice none 0 0) (Ow 105 3 0 (ccells (ds.take 0))) :: _) W := h.nilOw
  refine rngI (C := fun i => As.all ((i : Int) < n) [RgC bn bl n ds i]) (fun c i => As.all (c = .exit 0 ∧ (i : Int) = n) [RgC bn bl n ds i]) hI hlen (l := R) ?_ ?_ ?_ ?_
  · exact St.shut1 (by omega) (St.shutE (.slice none 0 0) (St.shut3 trivial hnil.to))
  · intro i x hxi ll rec I' W kn kst h hn hk
    obtain ⟨d, hd, rfl⟩ : ∃ d, ds[i]? = some d ∧ x = [.agg (Ch.cells d).toArray] := by
      rw [List.getElem?_map] at hxi
      cases hk0 : ds[i]? with
      | none => rw [hk0] at hxi; cases hxi
      | some k0 => rw [hk0] at hxi; cases hxi; exact ⟨k0, rfl, rfl⟩
    have hil := (List.getElem?_eq_some_iff.1 hd).1
    refine app1 ?_
    refine h.allocS fun bt W h => ?_
    refine h.storeS (cs' := Ch.cells d) fun W h => ?_
    refine ⟨h.ob (b := ll), ?_⟩
    replace h := h.putO (b := ll) (o := .loop (rec .ready none)) (.loop (rec .busy none))
    have h' := h.find (k := i) (X := fun i : Nat => As.all ((i : Int) < n) [RgC bn bl n ds i])
    clear h
    obtain ⟨hin, h⟩ := St.open1 h'
    obtain ⟨v, h⟩ := St.openE h
    replace h := (St.open3 h).2
    have ov : Cel1 v := .of_own (h.ow (v := v))
    refine app3 ?_
    (repeat (first | (with_reducible refine ift ?_) | (with_reducible refine iff' ?_) | (with_reducible refine a_lss ?_) | (with_reducible refine a_leq ?_) | (with_reducible refine a_gtr ?_) | (with_reducible refine a_geq ?_) | (with_reducible refine w_eql ?_) | (with_reducible refine w_neq ?_) | (with_reducible refine s_eql ?_) | (with_reducible refine s_neq ?_) | ((with_reducible refine a_add64 ?h0 ?h1 ?_); (case h0 => omega); (case h1 => omega);  skip) | ((with_reducible refine a_sub64 ?h0 ?h1 ?_); (case h0 => omega); (case h1 => omega);  skip) | ((with_reducible refine a_mul64 ?h0 ?h1 ?_); (case h0 => omega); (case h1 => omega);  skip) | (with_reducible refine a_notd ?_) | (with_reducible refine a_not ?_) | (with_reducible refine a_ext0 ?_) | (with_reducible refine a_ext1 ?_) | (with_reducible refine a_ext2 ?_) | (with_reducible refine x_len ?_) | (with_reducible refine x_lens ?_) | (with_reducible refine x_eqb ?_) | (with_reducible refine x_neb ?_) | (with_reducible refine x_nilP ?_) | (with_reducible refine x_nilPn ?_) | (with_reducible refine x_nilF ?_) | (with_reducible refine x_nilFF ?_) | (with_reducible refine w_eqlL ?_) | (with_reducible refine w_neqL ?_) | (with_reducible refine s_eqlL ?_) | (with_reducible refine ifnt ?_) | (with_reducible refine ifnf ?_) | (with_reducible refine x_eqB ?_) | (with_reducible refine x_neB ?_) | (with_reducible refine x_lssL ?_) | (with_reducible refine x_gtrL ?_) | (with_reducible refine x_geqL ?_) | (with_reducible refine s_neqL ?_) | (with_reducible refine St.load h ?_) | (with_reducible refine St.loadS h ?_) | (with_reducible refine a_fld0 ?_) | (with_reducible refine St.store h fun W h => ?_) | (with_reducible refine St.storeS h fun W h => ?_) | (with_reducible refine St.alloc h fun b W h => ?_) | (with_reducible refine St.allocS h fun b W h => ?_) | (with_reducible refine a_nil ?_) | (with_reducible refine ss_load ?_) | (with_reducible refine ss_loadS ?_) | (with_reducible refine ss_eqb ?_)))
    refine h.lit (vs := [.agg (Ch.cells d).toArray]) (cs := Ch.cells d) (fun u2 W o2 h => ?_) (by decide)
    refine St.app (v := v) h (h.osl (v := u2)) (by simp [Ch.cells, Value.oneCell']) (by unfold maxLen; omega) (by omega) fun v' W o' h _ => ?_
    rw [ccells_step hd] at h
    (repeat (first | (with_reducible refine ift ?_) | (with_reducible refine iff' ?_) | (with_reducible refine a_lss ?_) | (with_reducible refine a_leq ?_) | (with_reducible refine a_gtr ?_) | (with_reducible refine a_geq ?_) | (with_reducible refine w_eql ?_) | (with_reducible refine w_neq ?_) | (with_reducible refine s_eql ?_) | (with_reducible refine s_neq ?_) | ((with_reducible refine a_add64 ?h0 ?h1 ?_); (case h0 => omega); (case h1 => omega);  skip) | ((with_reducible refine a_sub64 ?h0 ?h1 ?_); (case h0 => omega); (case h1 => omega);  skip) | ((with_reducible refine a_mul64 ?h0 ?h1 ?_); (case h0 => omega); (case h1 => omega);  skip) | (with_reducible refine a_notd ?_) | (with_reducible refine a_not ?_) | (with_reducible refine a_ext0 ?_) | (with_reducible refine a_ext1 ?_) | (with_reducible refine a_ext2 ?_) | (with_reducible refine x_len ?_) | (with_reducible refine x_lens ?_) | (with_reducible refine x_eqb ?_) | (with_reducible refine x_neb ?_) | (with_reducible refine x_nilP ?_) | (with_reducible refine x_nilPn ?_) | (with_reducible refine x_nilF ?_) | (with_reducible refine x_nilFF ?_) | (with_reducible refine w_eqlL ?_) | (with_reducible refine w_neqL ?_) | (with_reducible refine s_eqlL ?_) | (with_reducible refine ifnt ?_) | (with_reducible refine ifnf ?_) | (with_reducible refine x_eqB ?_) | (with_reducible refine x_neB ?_) | (with_reducible refine x_lssL ?_) | (with_reducible refine x_gtrL ?_) | (with_reducible refine x_geqL ?_) | (with_reducible refine s_neqL ?_) | (with_reducible refine St.load h ?_) | (with_reducible refine St.loadS h ?_) | (with_reducible refine a_fld0 ?_) | (with_reducible refine St.store h fun W h => ?_) | (with_reducible refine St.storeS h fun W h => ?_) | (with_reducible refine St.alloc h fun b W h => ?_) | (with_reducible refine St.allocS h fun b W h => ?_) | (with_reducible refine a_nil ?_) | (with_reducible refine ss_load ?_) | (with_reducible refine ss_loadS ?_) | (with_reducible refine ss_eqb ?_)))
    refine x_lenS (h.osl (v := v')) ?_
    (repeat (first | (with_reducible refine ift ?_) | (with_reducible refine iff' ?_) | (with_reducible refine a_lss ?_) | (with_reducible refine a_leq ?_) | (with_reducible refine a_gtr ?_) | (with_reducible refine a_geq ?_) | (with_reducible refine w_eql ?_) | (with_reducible refine w_neq ?_) | (with_reducible refine s_eql ?_) | (with_reducible refine s_neq ?_) | ((with_reducible refine a_add64 ?h0 ?h1 ?_); (case h0 => omega); (case h1 => omega);  skip) | ((with_reducible refine a_sub64 ?h0 ?h1 ?_); (case h0 => omega); (case h1 => omega);  skip) | ((with_reducible refine a_mul64 ?h0 ?h1 ?_); (case h0 => omega); (case h1 => omega);  skip) | (with_reducible refine a_notd ?_) | (with_reducible refine a_not ?_) | (with_reducible refine a_ext0 ?_) | (with_reducible refine a_ext1 ?_) | (with_reducible refine a_ext2 ?_) | (with_reducible refine x_len ?_) | (with_reducible refine x_lens ?_) | (with_reducible refine x_eqb ?_) | (with_reducible refine x_neb ?_) | (with_reducible refine x_nilP ?_) | (with_reducible refine x_nilPn ?_) | (with_reducible refine x_nilF ?_) | (with_reducible refine x_nilFF ?_) | (with_reducible refine w_eqlL ?_) | (with_reducible refine w_neqL ?_) | (with_reducible refine s_eqlL ?_) | (with_reducible refine ifnt ?_) | (with_reducible refine ifnf ?_) | (with_reducible refine x_eqB ?_) | (with_reducible refine x_neB ?_) | (with_reducible refine x_lssL ?_) | (with_reducible refine x_gtrL ?_) | (with_reducible refine x_geqL ?_) | (with_reducible refine s_neqL ?_) | (with_reducible refine St.load h ?_) | (with_reducible refine St.loadS h ?_) | (with_reducible refine a_fld0 ?_) | (with_reducible refine St.store h fun W h => ?_) | (with_reducible refine St.storeS h fun W h => ?_) | (with_reducible refine St.alloc h fun b W h => ?_) | (with_reducible refine St.allocS h fun b W h => ?_) | (with_reducible refine a_nil ?_) | (with_reducible refine ss_load ?_) | (with_reducible refine ss_loadS ?_) | (with_reducible refine ss_eqb ?_)))
    refine ifd (fun hc => ?_) fun hc => ?_
    · exact hk (.exit 0) W (St.swap (St.shut1 ⟨rfl, hc⟩ (St.shutE v' (St.shut3 trivial h.to))))
    · exact hn W (St.swap (St.shut1 (by omega) (St.shutE v' (St.shut3 trivial h.to))))
  · intro DD W h
    obtain ⟨hin, h⟩ := St.open1 h.swap
    obtain ⟨v, h⟩ := St.openE h
    replace h := (St.open3 h).2
    rw [List.length_map] at hin h
    (repeat (first | (with_reducible refine ift ?_) | (with_reducible refine iff' ?_) | (with_reducible refine a_lss ?_) | (with_reducible refine a_leq ?_) | (with_reducible refine a_gtr ?_) | (with_reducible refine a_geq ?_) | (with_reducible refine w_eql ?_) | (with_reducible refine w_neq ?_) | (with_reducible refine s_eql ?_) | (with_reducible refine s_neq ?_) | ((with_reducible refine a_add64 ?h0 ?h1 ?_); (case h0 => omega); (case h1 => omega);  skip) | ((with_reducible refine a_sub64 ?h0 ?h1 ?_); (case h0 => omega); (case h1 => omega);  skip) | ((with_reducible refine a_mul64 ?h0 ?h1 ?_); (case h0 => omega); (case h1 => omega);  skip) | (with_reducible refine a_notd ?_) | (with_reducible refine a_not ?_) | (with_reducible refine a_ext0 ?_) | (with_reducible refine a_ext1 ?_) | (with_reducible refine a_ext2 ?_) | (with_reducible refine x_len ?_) | (with_reducible refine x_lens ?_) | (with_reducible refine x_eqb ?_) | (with_reducible refine x_neb ?_) | (with_reducible refine x_nilP ?_) | (with_reducible refine x_nilPn ?_) | (with_reducible refine x_nilF ?_) | (with_reducible refine x_nilFF ?_) | (with_reducible refine w_eqlL ?_) | (with_reducible refine w_neqL ?_) | (with_reducible refine s_eqlL ?_) | (with_reducible refine ifnt ?_) | (with_reducible refine ifnf ?_) | (with_reducible refine x_eqB ?_) | (with_reducible refine x_neB ?_) | (with_reducible refine x_lssL ?_) | (with_reducible refine x_gtrL ?_) | (with_reducible refine x_geqL ?_) | (with_reducible refine s_neqL ?_) | (with_reducible refine St.load h ?_) | (with_reducible refine St.loadS h ?_) | (with_reducible refine a_fld0 ?_) | (with_reducible refine St.store h fun W h => ?_) | (with_reducible refine St.storeS h fun W h => ?_) | (with_reducible refine St.alloc h fun b W h => ?_) | (with_reducible refine St.allocS h fun b W h => ?_) | (with_reducible refine a_nil ?_) | (with_reducible refine ss_load ?_) | (with_reducible refine ss_loadS ?_) | (with_reducible refine ss_eqb ?_)))
    refine ⟨h.ob (b := DD), ?_⟩
    have ov : Cel1 v := .of_own (h.ow (v := v))
    replace h := h.putO (b := DD) (o := .deferred (some [])) (.deferred none)
    rw [List.take_length] at h
    have e : ds.take n.toNat = ds := List.take_of_length_le (by omega)
    rw [e] at k
    exact k v _ ov h.to
  · intro DD c i W hi h
    obtain ⟨⟨hcc, hin⟩, h2⟩ := St.open1 h.swap
    subst hcc
    clear h
    obtain ⟨v, h⟩ := St.openE h2
    replace h := (St.open3 h).2
    show RunW _ _ _ _
    (repeat (first | (with_reducible refine ift ?_) | (with_reducible refine iff' ?_) | (with_reducible refine a_lss ?_) | (with_reducible refine a_leq ?_) | (with_reducible refine a_gtr ?_) | (with_reducible refine a_geq ?_) | (with_reducible refine w_eql ?_) | (with_reducible refine w_neq ?_) | (with_reducible refine s_eql ?_) | (with_reducible refine s_neq ?_) | ((with_reducible refine a_add64 ?h0 ?h1 ?_); (case h0 => omega); (case h1 => omega);  skip) | ((with_reducible refine a_sub64 ?h0 ?h1 ?_); (case h0 => omega); (case h1 => omega);  skip) | ((with_reducible refine a_mul64 ?h0 ?h1 ?_); (case h0 => omega); (case h1 => omega);  skip) | (with_reducible refine a_notd ?_) | (with_reducible refine a_not ?_) | (with_reducible refine a_ext0 ?_) | (with_reducible refine a_ext1 ?_) | (with_reducible refine a_ext2 ?_) | (with_reducible refine x_len ?_) | (with_reducible refine x_lens ?_) | (with_reducible refine x_eqb ?_) | (with_reducible refine x_neb ?_) | (with_reducible refine x_nilP ?_) | (with_reducible refine x_nilPn ?_) | (with_reducible refine x_nilF ?_) | (with_reducible refine x_nilFF ?_) | (with_reducible refine w_eqlL ?_) | (with_reducible refine w_neqL ?_) | (with_reducible refine s_eqlL ?_) | (with_reducible refine ifnt ?_) | (with_reducible refine ifnf ?_) | (with_reducible refine x_eqB ?_) | (with_reducible refine x_neB ?_) | (with_reducible refine x_lssL ?_) | (with_reducible refine x_gtrL ?_) | (with_reducible refine x_geqL ?_) | (with_reducible refine s_neqL ?_) | (with_reducible refine St.load h ?_) | (with_reducible refine St.loadS h ?_) | (with_reducible refine a_fld0 ?_) | (with_reducible refine St.store h fun W h => ?_) | (with_reducible refine St.storeS h fun W h => ?_) | (with_reducible refine St.alloc h fun b W h => ?_) | (with_reducible refine St.allocS h fun b W h => ?_) | (with_reducible refine a_nil ?_) | (with_reducible refine ss_load ?_) | (with_reducible refine ss_loadS ?_) | (with_reducible refine ss_eqb ?_)))
    refine ⟨h.ob (b := DD), ?_⟩
    have ov : Cel1 v := .of_own (h.ow (v := v))
    replace h := h.putO (b := DD) (o := .deferred (some [])) (.deferred none)
    rw [List.length_map] at hi
    have e : n.toNat = i := by omega
    rw [e, List.length_take, Nat.min_eq_left hi] at k
    exact k v _ ov h.to
end
end Go.Proofs.Ytdjgchofnkancaa
