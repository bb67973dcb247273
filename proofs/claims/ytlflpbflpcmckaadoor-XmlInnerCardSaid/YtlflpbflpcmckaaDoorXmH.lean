/-
  XML: attr, attrs: what each answers.
-/
import Derived.Test.YtlflpbflpcmckaaDoorXmG
import Derived.Test.YtlflpbflpcmckaaDoorEzRc
import Derived.Laws.StructEq
namespace Go.Proofs.YtlflpbflpcmckaaDoor
open Go Go.Ez Go.RowKit Go.Lib
set_option linter.unusedSimpArgs false
set_option linter.unusedVariables false
/-- a pair's cells -/
abbrev prc (p : XPr) : List Value := [strV p.pre, strV p.name, strV p.value]
theorem prc_len (p : XPr) : (prc p).length = 3 := rfl
section
variable {P : Program} {w0 w1 W W' : World} {G : Nat → Prop} {l R : List As} {K : Value → Prop} {KW : Value → World → Prop}
/-- a part of a block, as a struct -/
theorem St.loadP {b o n : Nat} {t e : TypeId} {all cs zs : List Value} [i : Has l b (Ob (.cells all.toArray t (0, 0))) R] [T : TyS P e n zs] [l1 : Len cs n] (h : St w0 G l W) (hx : ∀ j u, cs[j]? = some u → all[o + j]? = some u) (k : K (.agg cs.toArray)) : RunW P (Instr.loadAt e (.pointer (some ⟨b, o, none⟩))) W K :=
  x_lds (cs := cs) l1.eq (fun j u hu => (h.rc (b := b) (t := t) (cs := all)).cell (hx j u hu)) k
/-- a struct of a slice -/
theorem x_rcl {α : Type} {f : α → List Value} {sz : Nat} (hf : ∀ a, (f a).length = sz) {L : List α} {i n : Nat} {a : α} {t e : TypeId} {bytes : Nat} {z v : Value} {zs : List Value} {k0 : IntKind} [S : SlT P t e sz bytes z] [T : TyS P e sz zs] (hs : Sl W sz v n (rcells f L)) (hn : n = L.length) (hi : L[i]? = some a) (k : K (.agg (f a).toArray)) :
    RunA P (Instr.indexAt t v (.int k0 (i : Int))) fun q => RunW P (Instr.loadAt e q) W K := by
  have hil := (List.getElem?_eq_some_iff.1 hi).1
  refine x_idx hs (by omega) fun b o hc => x_lds (cs := f a) (hf a) (fun j u hu => ?_) k
  have hj : j < sz := by have := (List.getElem?_eq_some_iff.1 hu).1; rw [hf] at this; exact this
  exact hc j u hj (by rw [rc_get hf hi hj]; exact hu)
end
theorem fieldsOf_of {P : Program} {t : TypeId} {fs : Array Field} (h : P.underlying t = some (.struct fs)) : P.fieldsOf t = fs := by unfold Program.fieldsOf; rw [h]
theorem full_eqIn {a b c d : Txt} (w : World) : (Op.equalIn 10000 82 (.agg #[strV a, strV b]) (.agg #[strV c, strV d])).run Tryd.prog w = .ok (decide (a = c ∧ b = d)) w := by
  have hf := fieldsOf_of Tryd.underlying82
  have ht : Tryd.prog.underlying 82 = some (.struct (Tryd.prog.fieldsOf 82)) := Tryd.underlying82.trans (by rw [hf])
  have hs : Tryd.prog.stoodInHeld 82 = false := by kernel_rfl
  have es : ∀ (d : Nat) (a b : List UInt8), (Op.equalIn (d + 1) 9 (strV a) (strV b)).run Tryd.prog w = .ok (decide (a = b)) w := fun d a b => by
    rw [run_equalIn_string w d 9 _ _ Tryd.underlying9]
    rw [bytes_eq]
  rw [run_equalIn_agg w 9999 82 _ _ ht hs, hf]
  by_cases h1 : a = c <;> by_cases h2 : b = d <;> simp [Op.eqFields, go_sem, es 9998, h1, h2, Result.andThen]
theorem w_eqFull {K : Value → Prop} {X Y : Operand} {a b c d : Txt} {w : World} (h : K (.bool (decide (a = c ∧ b = d)))) : RunW Tryd.prog (bin .eql 82 X Y (.agg #[strV a, strV b]) (.agg #[strV c, strV d])) w K := by
  refine .of ?_ h
  have hg : Tryd.prog.eqGuardType Tryd.prog.depth 82 = false := by kernel_rfl
  show (do eqGuard .eql 82 X Y (.agg #[strV a, strV b]) (.agg #[strV c, strV d]); binOp .eql 82 (.agg #[strV a, strV b]) (.agg #[strV c, strV d]) : Sem Value).run Tryd.prog w = _
  simp only [Sem.run_bind, run_eqGuard_agg w .eql 82 X Y _ _ hg, Result.andThen, run_eql_struct, full_eqIn]
theorem w_neFull {K : Value → Prop} {X Y : Operand} {a b c d : Txt} {w : World} (h : K (.bool (!decide (a = c ∧ b = d)))) : RunW Tryd.prog (bin .neq 82 X Y (.agg #[strV a, strV b]) (.agg #[strV c, strV d])) w K := by
  refine .of ?_ h
  have hg : Tryd.prog.eqGuardType Tryd.prog.depth 82 = false := by kernel_rfl
  show (do eqGuard .neq 82 X Y (.agg #[strV a, strV b]) (.agg #[strV c, strV d]); binOp .neq 82 (.agg #[strV a, strV b]) (.agg #[strV c, strV d]) : Sem Value).run Tryd.prog w = _
  simp only [Sem.run_bind, run_eqGuard_agg w .neq 82 X Y _ _ hg, Result.andThen, run_neq_struct, full_eqIn]
abbrev PrO (p : XPr) : Nat → As := Ob (.cells (prc p).toArray 95 (0, 0))
abbrev PrS (L : List XPr) : Value → As := Ow 95 3 L.length (rcells prc L)
section
variable {w0 W W' : World} {G : Nat → Prop} {l R R1 : List As} {RR : Value → World → Prop} {t s : Txt} {c : XC} {x : UInt8} {b g n : Nat} {r : XRd} {p q : XPr} {L : List XPr} {v : Value}
theorem same1_spec [i : Has l g (PrO p) R] (h : St w0 G l W) (k : ∀ W', St w0 G l W' → RR (.bool (decide (q.pre = p.pre ∧ q.name = p.name))) W') : CallF Tryd.prog 68 #[.agg (prc q).toArray, .pointer (some ⟨g, 0, none⟩)] W RR := by
  refine sh68_calls ?_
  unfold sh68
  refine h.boxS fun b W h => ?_
  refine a_fld0 (St.loadP (b := b) (o := 0) (all := prc q) (cs := [strV q.pre, strV q.name]) h (fun j u hj => ?_) ?_)
  · rw [Nat.zero_add]; match j, hj with
    | 0, hj => exact hj
    | 1, hj => exact hj
  refine a_fld0 (St.loadP (b := g) (o := 0) (t := 95) (all := prc p) (cs := [strV p.pre, strV p.name]) h (fun j u hj => ?_) ?_)
  · rw [Nat.zero_add]; match j, hj with
    | 0, hj => exact hj
    | 1, hj => exact hj
  exact w_eqFull (k _ h.tail)
theorem contains_spec [i : Has l g (PrO p) R] [j : Has l v (PrS L) R1] (h : St w0 G l W) (hL : L.length ≤ 1000000) (k : ∀ W', St w0 G l W' → RR (.bool (L.any fun q => decide (q.pre = p.pre ∧ q.name = p.name))) W') : CallF Tryd.prog 67 #[v, .func (.func 68) #[] #[.pointer (some ⟨g, 0, none⟩)]] W RR := by
  refine sh67_calls ?_
  unfold sh67
  refine sh74_calls ?_
  unfold sh74
  refine x_lenS (h.osl (v := v)) ?_
  refine lpx (α := Nat) (fun i => [nV .i64 i]) (fun i W' => i ≤ L.length ∧ (L.any fun q => decide (q.pre = p.pre ∧ q.name = p.name)) = ((L.drop i).any fun q => decide (q.pre = p.pre ∧ q.name = p.name)) ∧ St w0 G l W') (fun i => L.length - i) 0 (fun _ => rfl) rfl ⟨Nat.zero_le _, rfl, h⟩ ?_
  clear h
  rintro next i W1 hnext ⟨h1, h2, h⟩
  refine app1 ?_
  refine a_lss (ifd (fun hc => ?_) fun hc => ?_)
  · have hi : i < L.length := by omega
    have ga : L[i]? = some L[i] := List.getElem?_eq_getElem hi
    rw [List.drop_eq_getElem_cons hi, List.any_cons] at h2
    generalize L[i] = q at ga h2
    refine x_rcl prc_len (h.osl (v := v)) rfl ga ?_
    refine callV_cl (hent _ (by kernel_rfl)) ?_
    refine same1_spec (p := p) (q := q) h fun W h => ?_
    refine ifd (fun hy => ?_) fun hy => ?_
    · refine a_geq ?_
      rw [h2, decide_eq_true hy, Bool.true_or] at k
      rw [decide_eq_true (by omega)]
      exact k W h
    · rw [decide_eq_false hy, Bool.false_or] at h2
      refine a_add64 (by omega) (by omega) ⟨rfl, rfl, rfl, ?_⟩
      rw [show ((i : Int) + 1) = ((i + 1 : Nat) : Int) by push_cast; rfl]
      exact hnext (i + 1) W (by omega) ⟨by omega, h2, h⟩
  · have hi : i = L.length := by omega
    rw [hi, List.drop_length, List.any_nil] at h2
    rw [h2] at k
    refine a_geq ?_
    exact k W1 h
/-- attr -/
theorem attr_spec (hT : XTabs w0) [i : Has l b (Xo r c) R1] [j : Has R1 v (PrS L) R] (h : St w0 G0 l W) (hle : r.at_ ≤ r.s.length) (hs : r.s.length ≤ 30000) (hL : L.length ≤ 1000000) (k : ∀ W', St w0 G0 (Ky b (Xo (XRd.attr decX signS L r).2 c) :: Ky v (PrS L) :: R) W' → RR (.agg (prc (XRd.attr decX signS L r).1).toArray) W') : CallF Tryd.prog 56 #[.pointer (some ⟨b, 0, none⟩), v] W RR := by
  refine sh56_calls ?_
  unfold sh56
  replace h : St w0 G0 (Ky b (Xo r c) :: Ky v (PrS L) :: R) W := h.to
  unfold XRd.attr at k
  dsimp only at k
  have hst := XRd.stp_full hle
  refine h.allocS fun g4 W h => ?_
  refine full_spec (r := r) (c := c) h hle (by omega) fun W h => ?_
  have hfl := XRd.full_le hle
  generalize r.full = F at *
  obtain ⟨⟨f1, f2⟩, q⟩ := F
  simp only at *
  refine x_bld (cells := [strV f1, strV f2, strV []].toArray) rfl ?_
  refine h.allocS fun g5 W h => ?_
  refine h.storeS (cs' := prc ⟨f1, f2, []⟩) fun W h => ?_
  have hfi := XRd.stp_failIf (r := q) (b := decide (q.e = 0) && L.any fun p => decide (p.pre = f1 ∧ p.name = f2)) (c := 4) (by decide) hst.ok
  generalize hF : q.failIf (decide (q.e = 0) && L.any fun p => decide (p.pre = f1 ∧ p.name = f2)) 4 = F at *
  have hFs : F.s.length = r.s.length := by rw [hfi.s, hst.s]
  refine jni (fun vs W' => vs = [.pointer (some ⟨b, 0, none⟩), .pointer (some ⟨g4, 0, none⟩), .pointer (some ⟨g5, 0, none⟩)] ∧ St w0 G0 (Ky b (Xo F c) :: Ky g5 (PrO ⟨f1, f2, []⟩) :: Ky g4 (Ob (.cells [strV [], strV [], strV []].toArray 95 (0, 0))) :: Ky v (PrS L) :: R) W') ?_ ?_
  · rintro vs W _ ⟨rfl, h⟩
    refine app3 ?_
    refine blanks_spec (r := F) (c := c) h hfi.ok (by omega) fun W h => ?_
    have h2 := XRd.stp_blanks hfi.ok
    have h2l : F.blanks.2.s.length = r.s.length := by rw [h2.s, hFs]
    refine wants_spec (p := [61]) (r := F.blanks.2) (c := c) h h2.ok (by omega) (by decide) fun W h => ?_
    have h3 := XRd.stp_wants (p := [61]) h2.ok
    have h3l : (XRd.wants [61] F.blanks.2).s.length = r.s.length := by rw [h3.s, h2l]
    refine blanks_spec (r := XRd.wants [61] F.blanks.2) (c := c) h h3.ok (by omega) fun W h => ?_
    have h4 := XRd.stp_blanks h3.ok
    have h4l : (XRd.wants [61] F.blanks.2).blanks.2.s.length = r.s.length := by rw [h4.s, h3l]
    generalize (XRd.wants [61] F.blanks.2).blanks.2 = z at *
    refine jni (fun vs W' => ∃ (x : XPr) (z' : XRd), vs = [.pointer (some ⟨g4, 0, none⟩), .pointer (some ⟨g5, 0, none⟩)] ∧ (if z.e = 0 then ((⟨f1, f2, (XRd.value decX signS z).1⟩ : XPr), (XRd.value decX signS z).2) else (⟨f1, f2, []⟩, z)) = (x, z') ∧ St w0 G0 (Ky b (Xo z' c) :: Ky g5 (PrO x) :: Ky g4 (Ob (.cells [strV [], strV [], strV []].toArray 95 (0, 0))) :: Ky v (PrS L) :: R) W') ?_ ?_
    · rintro vs W _ ⟨x, z', rfl, he, h⟩
      rw [he] at k
      refine app2 ?_
      refine St.loadP (b := g5) (o := 0) (t := 95) (all := prc x) (cs := prc x) h (fun j u hj => by rw [Nat.zero_add]; exact hj) ?_
      refine h.storeS (cs' := prc x) fun W h => ?_
      refine St.loadP (b := g4) (o := 0) (t := 95) (all := prc x) (cs := prc x) h (fun j u hj => by rw [Nat.zero_add]; exact hj) ?_
      exact k _ h.to
    · refine a_nil (a_fld0 (h.load ?_))
      refine w_eql (ifd (fun he => ?_) fun he => ?_)
      · rw [if_pos he]
        refine value_spec hT (r := z) (c := c) h (h4.ok.le he) (by omega) fun W h => ?_
        refine a_fld0 ?_
        replace h : St w0 G0 (Ky b (Xo (XRd.value decX signS z).2 c) :: Ky g5 (Ob (.cells [strV f1, strV f2, strV []].toArray 95 (0, 0))) :: Ky g4 (Ob (.cells [strV [], strV [], strV []].toArray 95 (0, 0))) :: Ky v (PrS L) :: R) W := h
        refine h.store fun W h => ?_
        refine ⟨⟨f1, f2, (XRd.value decX signS z).1⟩, (XRd.value decX signS z).2, rfl, rfl, ?_⟩
        replace h : St w0 G0 (Ky g5 (PrO ⟨f1, f2, (XRd.value decX signS z).1⟩) :: Ky b (Xo (XRd.value decX signS z).2 c) :: Ky g4 (Ob (.cells [strV [], strV [], strV []].toArray 95 (0, 0))) :: Ky v (PrS L) :: R) W := h
        exact h.to
      · rw [if_neg he]
        exact ⟨⟨f1, f2, []⟩, z, rfl, rfl, h⟩
  · replace h : St w0 G0 (Ky g5 (PrO ⟨f1, f2, []⟩) :: Ky b (Xo q c) :: Ky g4 (Ob (.cells [strV [], strV [], strV []].toArray 95 (0, 0))) :: Ky v (PrS L) :: R) W := h.to
    refine a_nil (a_fld0 (h.load ?_))
    refine w_eql (ifd (fun he => ?_) fun he => ?_)
    · refine v_func ?_
      refine contains_spec (p := ⟨f1, f2, []⟩) (L := L) (v := v) h hL fun W h => ifb (fun hc => ?_) fun hc => ?_
      · refine fail_spec (r := q) (c := c) h fun W h => ⟨rfl, ?_⟩
        rw [← hF, show (L.any fun p => decide (p.pre = f1 ∧ p.name = f2)) = true from hc, decide_eq_true he]
        exact h
      · refine ⟨rfl, ?_⟩
        rw [← hF, show (L.any fun p => decide (p.pre = f1 ∧ p.name = f2)) = false from hc, Bool.and_false, show q.failIf false 4 = q from rfl]
        exact h.to
    · refine ⟨rfl, ?_⟩
      rw [← hF, decide_eq_false he, Bool.false_and, show q.failIf false 4 = q from rfl]
      exact h.to
/-- attrs -/
theorem attrs_spec (hT : XTabs w0) [i : Has l b (Xo r c) R] (h : St w0 G0 l W) (hok : r.Ok) (hs : r.s.length ≤ 30000) (k : ∀ v W', Cel1 v → St w0 G0 (Ky v (PrS (XRd.attrs decX signS r).1) :: Ky b (Xo (XRd.attrs decX signS r).2 c) :: R) W' → RR v W') : CallF Tryd.prog 43 #[.pointer (some ⟨b, 0, none⟩)] W RR := by
  refine sh43_calls ?_
  unfold sh43
  replace h := h.find (k := b) (X := Xo r c)
  unfold XRd.attrs at k
  generalize hQ : XRd.attrsGo decX signS (r.s.length + 3) [] r = Q at k
  have hlt := hok.lt
  refine lpx (α := Nat × List XPr × Value × XRd) (fun A => [A.2.2.1]) (fun A W' => A.2.2.2.Ok ∧ A.2.2.2.s = r.s ∧ A.1 + A.2.1.length ≤ r.s.length + 3 ∧ (A.2.2.2.e = 0 → r.s.length < A.1 + A.2.2.2.at_) ∧ XRd.attrsGo decX signS A.1 A.2.1 A.2.2.2 = Q ∧ Cel1 A.2.2.1 ∧ St w0 G0 (Ky A.2.2.1 (PrS A.2.1) :: Ky b (Xo A.2.2.2 c) :: R) W') (fun A => A.1) (r.s.length + 3, [], .slice none 0 0, r) (fun _ => rfl) rfl
    ⟨hok, rfl, by simp, fun _ => by simp only; omega, hQ, ⟨rfl⟩, h.nilOw⟩ ?_
  clear h
  rintro next ⟨f, L, v, z⟩ W1 hnext ⟨h1, h2, h3, h4, h5, o, h⟩
  simp only at h1 h2 h3 h4 h5 o h
  refine app1 ?_
  have hsl : z.s.length = r.s.length := by rw [h2]
  refine a_nil (a_fld0 (h.load ?_))
  refine w_eql (ifd (fun he => ?_) fun he => ?_)
  · have h4' := h4 he
    have hzl := h1.le he
    obtain ⟨f, rfl⟩ : ∃ g, f = g + 1 := ⟨f - 1, by omega⟩
    unfold XRd.attrsGo at h5
    rw [if_neg (fun hn => hn he)] at h5
    dsimp only at h5
    have hzb := XRd.stp_blanks h1
    have hbl : z.blanks.2.s.length = r.s.length := by rw [hzb.s, hsl]
    refine blanks_spec (r := z) (c := c) h h1 (by omega) fun W h => ?_
    have hzs := hzb.trans (XRd.stp_see (n := 0) hzb.ok)
    refine see_spec (n := 0) (r := z.blanks.2) (c := c) h hzb.ok (by omega) (by decide) fun W h => ?_
    have out : ((z.blanks.2.see 0).2.e ≠ 0 ∨ (z.blanks.2.see 0).1 = 47 ∨ (z.blanks.2.see 0).1 = 62) → ∀ W, St w0 G0 (Ky b (Xo (z.blanks.2.see 0).2 c) :: Ky v (PrS L) :: R) W → RR v W := fun hx W h => by
      rw [if_pos hx] at h5
      rw [← h5] at k
      exact k v W o h.to
    refine a_nil (a_fld0 (h.load ?_))
    refine w_neq (ifd (fun hx => out (.inl hx) _ h) fun hx => ?_)
    refine w_eqC 47 rfl (ifd (fun h47 => out (.inr (.inl h47)) _ h) fun h47 => ?_)
    refine w_eqC 62 rfl (ifd (fun h62 => out (.inr (.inr h62)) _ h) fun h62 => ?_)
    rw [if_neg (by rintro (a | a | a); exact hx a; exact h47 a; exact h62 a)] at h5
    have hx0 := Classical.not_not.1 hx
    have hxl := hzs.ok.le hx0
    have hxs : (z.blanks.2.see 0).2.s.length = r.s.length := by rw [hzs.s, hsl]
    refine jni (fun vs W' => ∃ (L' : List XPr) (v' : Value) (z' : XRd), vs = [.pointer (some ⟨b, 0, none⟩), v'] ∧ z'.Ok ∧ z'.s = r.s ∧ f + L'.length ≤ r.s.length + 3 ∧ (z'.e = 0 → r.s.length < f + z'.at_) ∧ XRd.attrsGo decX signS f L' z' = Q ∧ Cel1 v' ∧ St w0 G0 (Ky v' (PrS L') :: Ky b (Xo z' c) :: R) W') ?_ ?_
    · rintro vs W _ ⟨L', v', z', rfl, g1, g2, g3, g4, g5, o', h⟩
      refine app2 ⟨rfl, ?_⟩
      exact hnext (f, L', v', z') W (by simp only; omega) ⟨g1, g2, g3, g4, g5, o', h⟩
    · refine a_not (ifnb (fun hb => ?_) fun hb => ?_)
      · rw [if_pos hb] at h5
        refine fail_spec (r := (z.blanks.2.see 0).2) (c := c) h fun W h => ?_
        exact ⟨L, v, _, rfl, (XRd.stp_fail (by decide) hzs.ok.lt).ok, XRd.fail_s.trans (hzs.s.trans h2), by omega, fun h0 => absurd h0 (XRd.fail_ne (by decide)), h5, o, h.to⟩
      · rw [if_neg (by rw [hb]; decide)] at h5
        refine attr_spec hT (r := (z.blanks.2.see 0).2) (c := c) (L := L) (v := v) h hxl (by omega) (by omega) fun W h => ?_
        obtain ⟨g1, g2⟩ := XRd.stp_attr (sgn := signS) (l := L) decX_ok hxl
        have hup := hzs.up
        generalize XRd.attr decX signS L (z.blanks.2.see 0).2 = A at *
        obtain ⟨p, y⟩ := A
        simp only at *
        refine h.lit fun u W ou h => ?_
        refine h.app (v := v) (h.osl (v := u)) (by intro a ha; simp only [List.mem_cons, List.not_mem_nil, or_false] at ha; rcases ha with rfl | rfl | rfl <;> rfl) (by unfold maxLen; omega) (by omega) fun v' W o' h _ => ?_
        rw [show rcells prc L ++ [strV p.pre, strV p.name, strV p.value] = rcells prc (L ++ [p]) by rw [rc_append, rc_single], show L.length + 1 = (L ++ [p]).length by simp] at h
        refine ⟨L ++ [p], v', y, rfl, g1.ok, g1.s.trans (hzs.s.trans h2), by rw [List.length_append, List.length_singleton]; omega, fun h0 => ?_, h5, o', h.to⟩
        have := g2 h0
        omega
  · have : Q = (L, z) := by
      rw [← h5]
      cases f
      · rfl
      · unfold XRd.attrsGo; rw [if_pos he]
    rw [this] at k
    exact k v W1 o h
end
end Go.Proofs.YtlflpbflpcmckaaDoor
