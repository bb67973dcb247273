/-
  XmlInner: few, the document's Inner, each, Same; the law.
-/
import Derived.Test.YtlflpbflpcmckaaDoorXmPn
import Derived.Test.YtlflpbflpcmckaaDoorEzRow3
namespace Go.Proofs.YtlflpbflpcmckaaDoor
open Go Go.Ez Go.RowKit Go.Lib
set_option linter.unusedSimpArgs false
set_option linter.unusedVariables false
section
variable {P : Program} {S : World → Prop} {K : Value → Prop}
theorem s_minI {ts : Array TypeId} {t : TypeId} {k k' : IntKind} {a b : Int} (h : K (.int k (min a b))) : RunS P S (Builtin.min_ ts t #[.int k a, .int k' b]) K := by
  obtain ⟨v, _, _⟩ := w_min (P := P) (w := (default : World)) (K := fun v => v = .int k (min a b)) (ts := ts) (t := t) (k := k) (k' := k') (a := a) (b := b) rfl
  refine ⟨_, fun w _ => ?_, h⟩
  obtain ⟨v, h1, h2⟩ := w_min (P := P) (w := w) (K := fun v => v = .int k (min a b)) (ts := ts) (t := t) (k := k) (k' := k') (a := a) (b := b) rfl
  rw [h1, h2]
end
section
variable {w0 W W' : World} {G : Nat → Prop} {l R R1 R2 : List As} {RR : Value → World → Prop} {s : Txt} {v va vb : Value} {ts us : List XTk} {t u : XTk} {i n b : Nat} {K : Value → Prop} {k0 : IntKind} {o o1 o2 : List XAt}
def SmTk (t : XTk) : Prop := t.text.length ≤ 20000 ∧ t.attrs.length ≤ 20000
theorem few_spec (ht : Toks w0 v ts) (h : St w0 G0 l W) (k : ∀ b W', (b = true → ts.length ≤ 400 ∧ ∀ t ∈ ts, SmTk t) → St w0 G0 l W' → RR (.bool b) W') : CallF Tryd.prog 18 #[v] W RR := by
  refine sh18_calls ?_
  unfold sh18
  obtain ⟨ov, ho, hs, hat⟩ := ht
  have l1 : ov.length = ts.length := by rw [← ho, List.length_map]
  refine jni (fun vs W' => vs = [v] ∧ (ts.length ≤ 400 → ∀ t ∈ ts, SmTk t) ∧ St w0 G0 l W') ?_ ?_
  · rintro vs W _ ⟨rfl, hok, h⟩
    refine app1 ?_
    refine x_lenS hs (a_leq ?_)
    refine k _ W (fun hb => ?_) h
    have := of_decide_eq_true hb
    exact ⟨by omega, hok (by omega)⟩
  · refine lpx (α := Nat × Nat) (fun A => [nV .i64 A.2, nV .i64 A.1]) (fun A W' => A.1 ≤ ts.length ∧ (∀ j t, j < A.1 → ts[j]? = some t → SmTk t) ∧ A.2 ≤ 20000 ∧ St w0 G0 l W') (fun A => ts.length - A.1) (0, 0) (fun _ => rfl) rfl ⟨Nat.zero_le _, fun j t hj => absurd hj (Nat.not_lt_zero _), Nat.zero_le _, h⟩ ?_
    clear h
    rintro next ⟨i, n⟩ W1 hnext ⟨q1, q2, q3, h⟩
    simp only at q1 q2 q3 h
    refine app2 ?_
    refine x_lenS hs (a_lss (ifd (fun hc => ?_) fun hc => ?_))
    · have hi : i < ts.length := by omega
      refine a_lss (ifd (fun hc4 => ?_) fun hc4 => ⟨rfl, fun h4 => by omega, h⟩)
      have ga : ts[i]? = some ts[i] := List.getElem?_eq_getElem hi
      generalize ts[i] = t at ga
      obtain ⟨xa, hxa⟩ := tk_ov ho ga
      obtain ⟨hx1, hx3⟩ := hat _ (List.mem_of_getElem? hxa)
      replace hx3 : Sl w0 3 xa t.attrs.length (rcells atc t.attrs) := hx3
      have hxil : i < ov.length := by omega
      have hf : ∀ j u, j < 5 → (tcell (t, xa))[j]? = some u → (rcells tcell ov)[i * 5 + j]? = some u := fun j u hj hu => by rw [rc_get tcell_len hxa hj]; exact hu
      refine ⟨St w0 G0 l, h.drew, ?_⟩
      replace h := h.drew
      have hS1 : ∀ w, St w0 G0 l w → Sl w 5 v ov.length (rcells tcell ov) := fun w hw => hs.below hw.low
      refine x_sfld (hS1 _ h) hS1 hxil (by decide) (hf 3 (strV t.text) (by decide) rfl) ?_
      refine x_lens (s_minI (a_add64 (by omega) (by omega) ?_))
      refine x_sfld (hS1 _ h) hS1 hxil (by decide) (hf 4 xa (by decide) rfl) ?_
      refine x_lenSs hx3 (s_minI (a_add64 (by omega) (by omega) (a_gtr (ifd (fun hg => ?_) fun hg => ?_))))
      · exact k _ _ (fun hb => by cases hb) h
      · refine a_add64 (by omega) (by omega) ⟨rfl, ?_⟩
        rw [show ((i : Int) + 1) = ((i + 1 : Nat) : Int) by push_cast; rfl, show ((n : Int) + min (t.text.length : Int) 20001 + min (t.attrs.length : Int) 20001) = ((n + min t.text.length 20001 + min t.attrs.length 20001 : Nat) : Int) by omega]
        refine hnext (i + 1, n + min t.text.length 20001 + min t.attrs.length 20001) _ (by simp only; omega) ⟨by simp only; omega, fun j u hj hu => ?_, by simp only; omega, h⟩
        by_cases hji : j = i
        · subst hji
          rw [ga] at hu
          cases hu
          exact ⟨by omega, by omega⟩
        · simp only at hj
          exact q2 j u (by omega) hu
    · refine ⟨rfl, fun _ t ht => ?_, h⟩
      obtain ⟨j, hj⟩ := List.getElem?_of_mem ht
      exact q2 j t (by have := (List.getElem?_eq_some_iff.1 hj).1; omega) hj
theorem x_dtk {f off : Nat} {ty : TypeId} {z u : Value} [F : Fld Tryd.prog 59 f off] [T : Ty1 Tryd.prog ty z] (ht : Toks W v ts) (hi : ts[i]? = some t) (ho : off < 5) (hu : ∀ va, (tcell (t, va))[off]? = some u) (k : K u) :
    RunA Tryd.prog (Instr.indexAt 38 v (.int k0 (i : Int))) fun p => RunA Tryd.prog (Instr.fieldAt 59 p f) fun q => RunW Tryd.prog (Instr.loadAt ty q) W K := by
  obtain ⟨ov, h1, h2, _⟩ := ht
  obtain ⟨va, hva⟩ := tk_ov h1 hi
  have hil := (List.getElem?_eq_some_iff.1 hva).1
  exact x_fld h2 (by omega) ho (by rw [rc_get tcell_len hva ho]; exact hu va) k
theorem rinner_spec (ht : Toks w0 v ts) (hn : ts.length ≤ 90000) (htx : ∀ t ∈ ts, t.text.length ≤ 1000000) {at_ : Int} (h : St w0 G0 l W) (k : ∀ W', St w0 G0 l W' → RR (.tuple #[strV (innerX ts at_).1, .int .i64 (innerX ts at_).2]) W') : CallF Tryd.prog 19 #[v, .int .i64 at_] W RR := by
  refine sh19_calls ?_
  unfold sh19
  obtain ⟨cs, hcs⟩ := tk_len ht
  have early : innerX ts at_ = ([], at_) → RR (.tuple #[strV [], .int .i64 at_]) W := fun e => by
    rw [e] at k
    exact k _ h
  refine a_lss (ifd (fun hc => ?_) fun h1 => ?_)
  · exact early (by unfold innerX; rw [if_pos (.inl hc)])
  refine x_lenS hcs (a_geq (ifd (fun hc => ?_) fun h2 => ?_))
  · exact early (by unfold innerX; rw [if_pos (.inr hc)])
  obtain ⟨q, rfl⟩ : ∃ q : Nat, at_ = (q : Int) := ⟨at_.toNat, by omega⟩
  have hq : q < ts.length := by omega
  have ga : ts[q]? = some ts[q] := List.getElem?_eq_getElem hq
  generalize ts[q] = t at ga
  refine x_dtk (u := .int .i64 t.kind) (ht.below h.low) ga (by decide) (fun va => rfl) (w_neq (ifd (fun hc => ?_) fun h3 => ?_))
  · exact early (by unfold innerX; rw [if_neg (by omega), Int.toNat_natCast, ga]; exact if_pos hc)
  have hin : innerX ts q = ((inGo (ts.drop q) 0 []).1, match (inGo (ts.drop q) 0 []).2 with | some j => (q : Int) + j + 1 | none => ts.length) := by
    unfold innerX
    rw [if_neg (by omega), Int.toNat_natCast, ga]
    dsimp only
    rw [if_neg h3]
    rfl
  rw [hin] at k
  clear early hin
  generalize hus : ts.drop q = us at *
  have hul : us.length = ts.length - q := by rw [← hus, List.length_drop]
  have hget : ∀ i, us[i]? = ts[q + i]? := fun i => by rw [← hus, List.getElem?_drop]
  refine lpx (α := Nat × Int × Txt) (fun A => [strV A.2.2, .int .i64 A.2.1, nV .i64 (q + A.1)]) (fun A W' => A.1 ≤ us.length ∧ inGo us 0 [] = ((inGo (us.drop A.1) A.2.1 A.2.2).1, (inGo (us.drop A.1) A.2.1 A.2.2).2.map (· + A.1)) ∧ -(A.1 : Int) ≤ A.2.1 ∧ A.2.1 ≤ A.1 ∧ A.2.2.length ≤ A.1 * 1000000 ∧ St w0 G0 l W') (fun A => us.length - A.1) (0, 0, []) (fun _ => rfl) rfl ⟨Nat.zero_le _, by simp, by simp, by simp, by simp, h⟩ ?_
  clear h
  rintro next ⟨i, d, b⟩ W1 hnext ⟨q1, hx, hd1, hd2, hbl, h⟩
  simp only at q1 hx hd1 hd2 hbl h
  refine app3 ?_
  dsimp only
  refine x_lenS hcs (a_lss (ifd (fun hc => ?_) fun hc => ?_))
  · have hi : i < us.length := by omega
    have gu : us[i]? = some us[i] := List.getElem?_eq_getElem hi
    have hdr : us.drop i = us[i] :: us.drop (i + 1) := List.drop_eq_getElem_cons hi
    have hmem : us[i] ∈ ts := by rw [hget] at gu; exact List.mem_of_getElem? gu
    have hxt := htx _ hmem
    generalize us[i] = t at *
    rw [hdr] at hx
    have gt : ts[q + i]? = some t := by rw [← hget]; exact gu
    have hkd := kd_le t.kind
    have hbl2 : (b ++ txOf t).length ≤ (i + 1) * 1000000 := by
      rw [List.length_append]
      have : (txOf t).length ≤ 1000000 := by unfold txOf; split; exact hxt; simp
      omega
    refine x_dtk (u := .int .i64 t.kind) (ht.below h.low) gt (by decide) (fun va => rfl) ?_
    refine jni (fun vs W' => vs = [v, strV (b ++ txOf t), .int .i64 (d + kd t.kind), nV .i64 (q + i)] ∧ St w0 G0 l W') ?_ ?_
    · rintro vs W _ ⟨rfl, h⟩
      refine app4 ?_
      refine w_eql (ifd (fun h0 => ?_) fun h0 => ?_)
      · refine a_add64 (by omega) (by omega) ?_
        have e1 : inGo us 0 [] = (b ++ txOf t, some i) := by
          rw [hx]
          simp only [inGo, if_pos h0, Option.map_some, Nat.zero_add]
        rw [e1] at k
        dsimp only at k
        rw [show (((q + i : Nat) : Int) + 1) = (q : Int) + i + 1 by push_cast; rfl]
        exact k _ h
      · refine a_add64 (by omega) (by omega) ⟨rfl, ?_⟩
        rw [show (((q + i : Nat) : Int) + 1) = ((q + (i + 1) : Nat) : Int) by push_cast; omega]
        exact hnext (i + 1, d + kd t.kind, b ++ txOf t) _ (by simp only; omega) ⟨by simp only; omega, inGo_step h0 hx, by simp only; omega, by simp only; omega, hbl2, h⟩
    · refine w_eql (ifd (fun k1 => ?_) fun k1 => ?_)
      · have e1 : kd t.kind = 1 := by unfold kd; rw [if_pos k1]
        have e2 : txOf t = [] := by unfold txOf; rw [show t.kind = 1 from k1]; rfl
        rw [e1, e2, List.append_nil]
        exact a_add64 (by omega) (by omega) ⟨rfl, h⟩
      refine jni (fun vs W' => vs = [v, strV (b ++ txOf t), .int .i64 (d + kd t.kind), nV .i64 (q + i)] ∧ St w0 G0 l W') (by rintro vs W _ ⟨rfl, h⟩; exact app4 ⟨rfl, h⟩) ?_
      refine w_eql (ifd (fun k2 => ?_) fun k2 => ?_)
      · have e1 : kd t.kind = -1 := by unfold kd; rw [if_neg k1, if_pos k2]
        have e2 : txOf t = [] := by unfold txOf; rw [show t.kind = 2 from k2]; rfl
        rw [e1, e2, List.append_nil]
        refine a_sub64 (by omega) (by omega) ⟨?_, h⟩
        rw [show d - 1 = d + -1 by omega]
      refine jni (fun vs W' => vs = [v, strV (b ++ txOf t), .int .i64 (d + kd t.kind), nV .i64 (q + i)] ∧ St w0 G0 l W') (by rintro vs W _ ⟨rfl, h⟩; exact app4 ⟨rfl, h⟩) ?_
      have e1 : kd t.kind = 0 := by unfold kd; rw [if_neg k1, if_neg k2]
      rw [e1, Int.add_zero]
      refine w_eql (ifd (fun k3 => ?_) fun k3 => ?_)
      · have e2 : txOf t = t.text := by unfold txOf; rw [if_pos k3]
        rw [e2]
        refine x_dtk (u := strV t.text) (ht.below h.low) gt (by decide) (fun va => rfl) ?_
        exact a_cat (by omega) ⟨rfl, h⟩
      · have e2 : txOf t = [] := by unfold txOf; rw [if_neg k3]
        rw [e2, List.append_nil]
        exact ⟨rfl, h⟩
  · have hi : i = us.length := by omega
    rw [hi, List.drop_length] at hx
    simp only [inGo, Option.map_none] at hx
    rw [hx] at k
    dsimp only at k
    refine x_lenS hcs ?_
    exact k _ h
/-! ### Same -/
theorem eqAt_spec (h1 : Sl w0 3 va o1.length (rcells atc o1)) (h2 : Sl w0 3 vb o2.length (rcells atc o2)) (ha : o1.length ≤ 1000000) (h : St w0 G0 l W) (k : ∀ W', St w0 G0 l W' → RR (.bool (decide (o1 = o2))) W') : CallF Tryd.prog 37 #[va, vb] W RR := by
  refine sh37_calls ?_
  unfold sh37
  have no : o1 ≠ o2 → ∀ {W}, St w0 G0 l W → RR (.bool false) W := fun hne {W} h => by
    rw [decide_eq_false hne] at k
    exact k _ h
  refine x_lenS h1 (x_lenS h2 (w_neq (ifd (fun hne => no (fun e => hne (by rw [e])) h) fun g5 => x_lenS h1 ?_)))
  have hlen : o1.length = o2.length := by omega
  refine lpx (α := Nat) (fun i => [nV .i64 i]) (fun i W' => i ≤ o1.length ∧ o1.take i = o2.take i ∧ St w0 G0 l W') (fun i => o1.length - i) 0 (fun _ => rfl) rfl ⟨Nat.zero_le _, rfl, h⟩ ?_
  clear h
  rintro next i W1 hnext ⟨q1, q2, h⟩
  refine app1 ?_
  refine a_lss (ifd (fun hc => ?_) fun hc => ?_)
  · have hi : i < o1.length := by omega
    have ga : o1[i]? = some o1[i] := List.getElem?_eq_getElem hi
    have gb : o2[i]? = some (o2[i]'(by omega)) := List.getElem?_eq_getElem (by omega)
    generalize o1[i] = a at ga
    generalize (o2[i]'(by omega)) = b at gb
    refine ⟨St w0 G0 l, h.drew, ?_⟩
    replace h := h.drew
    have hS1 : ∀ w, St w0 G0 l w → Sl w 3 va o1.length (rcells atc o1) := fun w hw => h1.below hw.low
    have hS2 : ∀ w, St w0 G0 l w → Sl w 3 vb o2.length (rcells atc o2) := fun w hw => h2.below hw.low
    refine x_srcl atc_len (hS1 _ h) hS1 rfl ga ?_
    refine x_srcl atc_len (hS2 _ h) hS2 rfl gb ?_
    refine s_neXat (ifnd (fun hne => ?_) fun hab => ?_)
    · refine no (fun e => hne ?_) h
      rw [e, gb] at ga
      exact (Option.some.inj ga).symm
    · refine a_add64 (by omega) (by omega) ⟨rfl, rfl, rfl, ?_⟩
      rw [show ((i : Int) + 1) = ((i + 1 : Nat) : Int) by push_cast; rfl]
      exact hnext (i + 1) _ (by omega) ⟨by omega, by rw [List.take_add_one, List.take_add_one, ga, gb, q2, hab], h⟩
  · have hi : i = o1.length := by omega
    rw [hi, List.take_length, hlen, List.take_length] at q2
    rw [decide_eq_true q2] at k
    exact k _ h
abbrev XTb (t : XTk) (va : Value) : Nat → As := Ob (.cells (tcell (t, va)).toArray 30 (0, 0))
theorem xsame_spec (h1 : Sl w0 3 va t.attrs.length (rcells atc t.attrs)) (h2 : Sl w0 3 vb u.attrs.length (rcells atc u.attrs)) (ha : t.attrs.length ≤ 1000000) (h : St w0 G0 l W) (k : ∀ W', St w0 G0 l W' → RR (.bool (decide (t = u))) W') : CallF Tryd.prog 22 #[.agg (tcell (t, va)).toArray, .agg (tcell (u, vb)).toArray] W RR := by
  refine sh22_calls ?_
  unfold sh22
  refine h.boxS (cs := tcell (t, va)) fun b1 W h => ?_
  refine h.boxS (cs := tcell (u, vb)) fun b2 W h => ?_
  replace h : St w0 G0 (Ky b2 (XTb u vb) :: Ky b1 (XTb t va) :: l) W := h
  have no : t ≠ u → ∀ {W}, St w0 G0 (Ky b2 (XTb u vb) :: Ky b1 (XTb t va) :: l) W → RR (.bool false) W := fun hne {W} h => by
    rw [decide_eq_false hne] at k
    exact k _ h.tail.tail
  refine a_fld0 (h.load (a_fld0 (h.load (w_eql (ifd (fun g1 => ?_) fun hne => no (fun e => hne (by rw [e])) h)))))
  refine a_fld0 (h.load (a_fld0 (h.load (w_eqlL (ifd (fun g2 => ?_) fun hne => no (fun e => hne (by rw [e])) h)))))
  refine a_fld0 (h.load (a_fld0 (h.load (w_eqlL (ifd (fun g3 => ?_) fun hne => no (fun e => hne (by rw [e])) h)))))
  refine a_fld0 (h.load (a_fld0 (h.load (w_eqlL (ifd (fun g4 => ?_) fun hne => no (fun e => hne (by rw [e])) h)))))
  refine a_fld0 (h.load (a_fld0 (h.load ?_)))
  refine eqAt_spec h1 h2 ha h fun W h => ?_
  have e : decide (t.attrs = u.attrs) = decide (t = u) := by
    cases t; cases u
    simp only at g1 g2 g3 g4
    subst g1 g2 g3 g4
    simp
  rw [e]
  exact k _ h.tail.tail
/-! ### what is ranged over -/
theorem sl_putDef {D sz : Nat} {x : Option (List Deferred)} {y : Obj} {cs : List Value} (hD : W.heap[D]? = some (.deferred x)) (h : Sl W sz v n cs) : Sl (W.putObj D y) sz v n cs := by
  have hc := h
  refine h.loc fun b hb hne => ?_
  obtain ⟨ao, cap, rfl, hnc, hl, hcell, _⟩ := hc
  cases cs with
  | nil => exact absurd rfl hne
  | cons c cs =>
    obtain ⟨b', o', rfl, h2⟩ := hcell 0 c rfl
    have hbb : b' = b := by simpa [Value.ownBlock] using hb
    subst hbb
    have hne : b' ≠ D := fun e => by
      subst e
      simp [World.cell?, hD] at h2
    simp [World.putObj, Array.getElem?_setIfInBounds_ne (Ne.symm hne)]
theorem Toks.putDef {D : Nat} {x : Option (List Deferred)} {y : Obj} (hD : W.heap[D]? = some (.deferred x)) (h : Toks W v ts) : Toks (W.putObj D y) v ts := by
  obtain ⟨ov, h1, h2, h3⟩ := h
  exact ⟨ov, h1, sl_putDef hD h2, fun p hp => ⟨(h3 p hp).1, sl_putDef hD (h3 p hp).2⟩⟩
def idxL (i : Nat) : List Value := (List.range i).map fun j => nV .i64 j
theorem idxL_succ (i : Nat) : idxL (i + 1) = idxL i ++ [nV .i64 i] := by simp [idxL, List.range_succ]
theorem idxL_get {i c : Nat} (h : i < c) : (idxL c)[i]? = some (nV .i64 i) := by simp [idxL, h]
abbrev EaX := Value × Value × List (XTk × Value) × List (Value × List XAt)
abbrev EaL (t3 t6 t7 : Nat) (n : Int) (i : Nat) (x : EaX) (R : List As) : List As := Ky t3 (Ob (.cells [(.int .i64 n : Value)].toArray 3 (0, 0))) :: Ky t6 (Ob (.cells [x.1].toArray 49 (0, 0))) :: Ky t7 (Ob (.cells [x.2.1].toArray 24 (0, 0))) :: Ky x.1 (Ow 3 1 i (idxL i)) :: Ky x.2.1 (TkS x.2.2.1) :: Ky PoolK.b (KqA x.2.2.2) :: R
def EaF (ts : List XTk) (i : Nat) (x : EaX) : Prop := x.2.2.1.map Prod.fst = ts.take i ∧ (∀ p ∈ x.2.2.1, InP x.2.2.2 p) ∧ Cel1 x.1 ∧ Cel1 x.2.1
abbrev EaC (t3 t6 t7 : Nat) (n : Int) (ts : List XTk) (i : Nat) : As := As.ex fun x : EaX => As.all (EaF ts i x ∧ (i : Int) < n) (EaL t3 t6 t7 n i x [])
abbrev EaD (t3 t6 t7 : Nat) (n : Int) (ts : List XTk) (c : Code) (i : Nat) : As := As.ex fun x : EaX => As.all (EaF ts i x ∧ (i : Int) = n ∧ c = .exit 0) (EaL t3 t6 t7 n i x [])
theorem eaShut {t3 t6 t7 : Nat} {n : Int} {x : EaX} {φ : Prop} (hφ : φ) (h : St w0 G0 (EaL t3 t6 t7 n i x l) W) : St w0 G0 (As.all φ (EaL t3 t6 t7 n i x []) :: l) W := St.shutA hφ h
theorem eaOpen {t3 t6 t7 : Nat} {n : Int} {x : EaX} {φ : Prop} (h : St w0 G0 (As.all φ (EaL t3 t6 t7 n i x []) :: l) W) : φ ∧ St w0 G0 (EaL t3 t6 t7 n i x l) W := St.openA h
theorem eachN_spec (ht : Toks w0 v ts) (hn : ts.length ≤ 1000000) (ha : ∀ t ∈ ts, t.attrs.length ≤ 1000000) {n : Int} {bE : Nat} (h : St w0 G0 (Ky (eachFn bE) (ItE bE v) :: l) W)
    (k : ∀ (c : Nat) va v' W', (c : Int) = min (max n 0) ts.length → St w0 G0 l W' → Sl W' 1 va c (idxL c) → Toks W' v' (ts.take c) → RR (.tuple #[va, v']) W') : CallF Tryd.prog 20 #[eachFn bE, .int .i64 n] W RR := by
  refine sh20_calls ?_
  unfold sh20
  refine h.boxV fun t3 W h => ?_
  refine h.alloc fun t6 W h => ?_
  refine h.alloc fun t7 W h => ?_
  refine w_nilFn Tryd.underlying53 (iff' ?_)
  refine h.load (a_lss (ifd (fun hc => ?_) fun h1 => ?_))
  · exact k 0 _ _ W (by omega) h.to (Sl.nil W 1) (.nil W)
  have hE := each_itr (b := bE) ht hn ha
  refine rngV (C := EaC t3 t6 t7 n ts) (EaD t3 t6 t7 n ts) hE (fun i va => rfl) (l := l) ?_ ?_ ?_ ?_
  · have h0 : St w0 G0 (Ky (.slice none 0 0) (Ow 3 1 0 (idxL 0)) :: Ky (.slice none 0 0) (TkS []) :: Ky PoolK.b (KqA []) :: _) W := ((St.kqNil PoolK.b atc 35 3 h).nilOw).nilOw
    refine St.shutE (((.slice none 0 0, .slice none 0 0, [], []) : EaX)) (eaShut ⟨⟨rfl, by simp, ⟨rfl⟩, ⟨rfl⟩⟩, by omega⟩ ?_)
    exact ((h0.find (k := t7)).find (k := t6)).find (k := t3)
  · intro i hi vt ll rec I' W kn kst ovt h hn' hk
    have gu : ts[i]? = some ts[i] := List.getElem?_eq_getElem hi
    have hgd : ts.getD i default = ts[i] := by rw [List.getD_eq_getElem?_getD, gu]; rfl
    unfold eachX
    unfold eachH at h
    rw [hgd] at h ⊢
    generalize ts[i] = t at *
    refine app2 ?_
    refine h.allocS fun t9 W h => ?_
    refine h.storeS (cs' := tcell (t, vt)) fun W h => ?_
    refine ⟨h.ob (b := ll), ?_⟩
    replace h := h.putO (b := ll) (o := .loop (rec .ready none)) (.loop (rec .busy none))
    replace h : St w0 G0 (Ky i (EaC t3 t6 t7 n ts) :: Ky ll (Ob (.loop (rec .busy none))) :: Ky t9 (XTb t vt) :: Ky vt (AtS t.attrs) :: I') _ := h.to
    obtain ⟨⟨va, vb, ov, zs⟩, h⟩ := St.openE h
    obtain ⟨⟨⟨f1, f2, f3, f4⟩, hin⟩, h⟩ := eaOpen h
    simp only at f1 f2 f3 f4
    unfold EaL at h
    dsimp only at h
    have hovl : ov.length = i := by have := congrArg List.length f1; rw [List.length_map, List.length_take] at this; omega
    refine app5 ?_
    refine jni (fun vs W' => vs = [.pointer (some ⟨t3, 0, none⟩), .pointer (some ⟨t6, 0, none⟩)] ∧ ∃ x : EaX, EaF ts (i + 1) x ∧ St w0 G0 (EaL t3 t6 t7 n (i + 1) x (Ky ll (Ob (.loop (rec .busy none))) :: I')) W') ?_ ?_
    · rintro vs W _ ⟨rfl, ⟨va, vb, ov, zs⟩, hf, h⟩
      refine app2 ?_
      refine h.load (x_lenS (h.osl (v := va)) (h.load (w_eql (ifd (fun he => ?_) fun he => ?_))))
      · exact hk (.exit 0) W (St.swap (St.shutE ((va, vb, ov, zs) : EaX) (eaShut ⟨hf, he, rfl⟩ h.to)))
      · exact hn' W (St.swap (St.shutE ((va, vb, ov, zs) : EaX) (eaShut ⟨hf, by omega⟩ h.to)))
    have fin : ∀ va2 vb2 W, Cel1 va2 → Cel1 vb2 → St w0 G0 (Ky t6 (Ob (.cells [va].toArray 49 (0, 0))) :: Ky t7 (Ob (.cells [vb].toArray 24 (0, 0))) :: Ky va2 (Ow 3 1 (i + 1) (idxL i ++ [nV .i64 i])) :: Ky vb2 (Ow 30 5 (ov.length + 1) (rcells tcell ov ++ tcell (t, vt))) :: Ky vt (AtS t.attrs) :: Ky t3 (Ob (.cells [(.int .i64 n : Value)].toArray 3 (0, 0))) :: Ky PoolK.b (KqA zs) :: Ky ll (Ob (.loop (rec .busy none))) :: I') W →
        RunU Tryd.prog (Instr.storeAt 49 (.pointer (some ⟨t6, 0, none⟩)) va2) W fun w => RunU Tryd.prog (Instr.storeAt 24 (.pointer (some ⟨t7, 0, none⟩)) vb2) w fun w => [(.pointer (some ⟨t3, 0, none⟩) : Value), .pointer (some ⟨t6, 0, none⟩)] = [.pointer (some ⟨t3, 0, none⟩), .pointer (some ⟨t6, 0, none⟩)] ∧ ∃ x : EaX, EaF ts (i + 1) x ∧ St w0 G0 (EaL t3 t6 t7 n (i + 1) x (Ky ll (Ob (.loop (rec .busy none))) :: I')) w := fun va2 vb2 W o1 o2 h => by
      refine h.store fun W h => h.store fun W h => ⟨rfl, (va2, vb2, ov ++ [(t, vt)], (vt, t.attrs) :: zs), ⟨?_, ?_, o1, o2⟩, ?_⟩
      · rw [List.map_append, f1, List.take_add_one, gu]; rfl
      · intro p hp
        rcases List.mem_append.1 hp with hp | hp
        · exact ⟨(f2 p hp).1, List.mem_cons_of_mem _ (f2 p hp).2⟩
        · rw [List.mem_singleton.1 hp]
          exact ⟨ovt.one, List.mem_cons_self ..⟩
      · replace h := h.kqAdd (k := PoolK.b) (v := vt) (xs := t.attrs) rfl rfl
        have e1 : ov.length + 1 = (ov ++ [(t, vt)]).length := by simp
        have e2 : rcells tcell ov ++ tcell (t, vt) = rcells tcell (ov ++ [(t, vt)]) := by rw [rc_append, rc_single]
        rw [← idxL_succ, e2, e1] at h
        exact h.to
    have one5 : ∀ a ∈ tcell (t, vt), a.oneCell' = true := by intro a ha; simp only [List.mem_cons, List.not_mem_nil, or_false] at ha; rcases ha with rfl | rfl | rfl | rfl | rfl; rfl; rfl; rfl; rfl; exact ovt.one
    refine ⟨fun W => Rec W t6 49 [va] ∧ Rec W t7 24 [vb] ∧ Rec W t9 30 (tcell (t, vt)), ⟨h.drew.rc, h.drew.rc, h.drew.rc⟩, ?_⟩
    replace h := h.drew
    refine s_ld (t := 49) (cs := [va]) (fun w hw => hw.1) rfl ?_
    refine s_ld (t := 24) (cs := [vb]) (fun w hw => hw.2.1) rfl ?_
    refine s_lds (cs := tcell (t, vt)) (fun w hw => hw.2.2) ?_
    have oneI : ∀ a ∈ [(nV .i64 i : Value)], a.oneCell' = true := by intro a ha; rw [List.mem_singleton.1 ha]; rfl
    refine ⟨?_, ?_, trivial⟩
    · refine h.lit fun u1 W w1 h => ⟨⟨h.rc, h.rc, h.rc⟩, ?_, ?_, trivial⟩
      · refine h.app (v := va) (h.osl (v := u1)) oneI (by unfold maxLen; omega) (by omega) fun va2 W o1 h _ => ⟨⟨h.rc, h.rc, h.rc⟩, ?_⟩
        refine h.lit fun u2 W w2 h => ⟨⟨h.rc, h.rc, h.rc⟩, ?_⟩
        refine h.app (v := vb) (h.osl (v := u2)) one5 (by unfold maxLen; omega) (by omega) fun vb2 W o2 h _ => fin va2 vb2 W o1 o2 h.to
      · refine h.lit fun u2 W w2 h => ⟨⟨h.rc, h.rc, h.rc⟩, ?_⟩
        refine h.app (v := va) (h.osl (v := u1)) oneI (by unfold maxLen; omega) (by omega) fun va2 W o1 h _ => ⟨⟨h.rc, h.rc, h.rc⟩, ?_⟩
        refine h.app (v := vb) (h.osl (v := u2)) one5 (by unfold maxLen; omega) (by omega) fun vb2 W o2 h _ => fin va2 vb2 W o1 o2 h.to
    · refine h.lit fun u2 W w2 h => ⟨⟨h.rc, h.rc, h.rc⟩, ?_⟩
      refine h.lit fun u1 W w1 h => ⟨⟨h.rc, h.rc, h.rc⟩, ?_⟩
      refine h.app (v := va) (h.osl (v := u1)) oneI (by unfold maxLen; omega) (by omega) fun va2 W o1 h _ => ⟨⟨h.rc, h.rc, h.rc⟩, ?_⟩
      refine h.app (v := vb) (h.osl (v := u2)) one5 (by unfold maxLen; omega) (by omega) fun vb2 W o2 h _ => fin va2 vb2 W o1 o2 h.to
  · intro D W h
    replace h : St w0 G0 (Ky ts.length (EaC t3 t6 t7 n ts) :: Ky D (Ob (.deferred (some []))) :: Ky (eachFn bE) (ItE bE v) :: l) W := h.swap
    obtain ⟨⟨va, vb, ov, zs⟩, h⟩ := St.openE h
    obtain ⟨⟨⟨f1, f2, f3, f4⟩, hin⟩, h⟩ := eaOpen h
    simp only at f1 f2 f3 f4
    unfold EaL at h
    dsimp only at h
    rw [List.take_length] at f1
    refine ⟨fun W => Rec W t6 49 [va] ∧ Rec W t7 24 [vb], ⟨h.drew.rc, h.drew.rc⟩, ?_⟩
    replace h := h.drew
    refine s_ld (t := 49) (cs := [va]) (fun w hw => hw.1) rfl ?_
    refine s_ld (t := 24) (cs := [vb]) (fun w hw => hw.2) rfl ?_
    have hT : Toks _ vb ts := ⟨ov, f1, h.osl (v := vb), fun p hp => ⟨(f2 p hp).1, h.kqGet (k := PoolK.b) (f2 p hp).2⟩⟩
    refine plain_spec hT hn ha (St.start _) fun v' W' h' t' => ?_
    replace h := h.ext h'.low
    refine ⟨⟨h.rc, h.rc⟩, h.ob (b := D), ?_⟩
    have hD := h.ob (b := D)
    replace t' := Toks.putDef (y := .deferred none) hD t'
    replace h := h.putO (b := D) (o := .deferred (some [])) (.deferred none)
    refine k ts.length va v' _ (by omega) h.to (h.osl (v := va)) ?_
    rw [List.take_length]
    exact t'
  · intro D c i W hi h
    replace h : St w0 G0 (Ky i (EaD t3 t6 t7 n ts c) :: Ky D (Ob (.deferred (some []))) :: Ky (eachFn bE) (ItE bE v) :: l) W := h.swap
    obtain ⟨⟨va, vb, ov, zs⟩, h⟩ := St.openE h
    obtain ⟨⟨⟨f1, f2, f3, f4⟩, hin, hcc⟩, h2⟩ := eaOpen h
    clear h
    subst hcc
    have h := h2
    clear h2
    simp only at f1 f2 f3 f4
    unfold EaL at h
    dsimp only at h
    show jumpK _ _ (.exit 0) _
    unfold jumpK
    dsimp only
    rw [show Nat.beq 0 0 = true from rfl, cond_true]
    refine ⟨fun W => Rec W t6 49 [va] ∧ Rec W t7 24 [vb], ⟨h.drew.rc, h.drew.rc⟩, ?_⟩
    replace h := h.drew
    refine s_ld (t := 49) (cs := [va]) (fun w hw => hw.1) rfl ?_
    refine s_ld (t := 24) (cs := [vb]) (fun w hw => hw.2) rfl ?_
    have hT : Toks _ vb (ts.take i) := ⟨ov, f1, h.osl (v := vb), fun p hp => ⟨(f2 p hp).1, h.kqGet (k := PoolK.b) (f2 p hp).2⟩⟩
    refine plain_spec hT (by rw [List.length_take]; omega) (fun t ht => ha t (List.mem_of_mem_take ht)) (St.start _) fun v' W' h' t' => ?_
    replace h := h.ext h'.low
    refine ⟨⟨h.rc, h.rc⟩, h.ob (b := D), ?_⟩
    have hD := h.ob (b := D)
    replace t' := Toks.putDef (y := .deferred none) hD t'
    replace h := h.putO (b := D) (o := .deferred (some [])) (.deferred none)
    exact k i va v' _ (by omega) h.to (h.osl (v := va)) t'
theorem s_neb' {P : Program} {S : World → Prop} {t : TypeId} {X Y : Operand} {a b : Bool} [u : Und P t .bool] (h : K (.bool (!(a == b)))) : RunS P S (bin .neq t X Y (.bool a) (.bool b)) K := s_of (v := .bool (!(a == b))) (fun w _ => x_neb rfl) h
/-- the first tokens -/
theorem Toks.takeD {q : Nat} (ht : Toks W v ts) (hq : q ≤ ts.length) {k1 : IntKind} (k : ∀ v', Toks W v' (ts.take q) → K v') : RunA Tryd.prog (Instr.sliceAt 38 v none (some (.int k1 (q : Int))) none) K := by
  obtain ⟨ov, ho, hs, hat⟩ := ht
  have l1 : ov.length = ts.length := by rw [← ho, List.length_map]
  refine a_sliceH (SlT.el (P := Tryd.prog) (t := 38)) hs (by omega) (by omega) fun v' hv' => k v' ⟨ov.take q, by rw [List.map_take, ho], ?_, fun p hp => hat p (List.mem_of_mem_take hp)⟩
  rw [Int.toNat_natCast, ← rc_take tcell_len] at hv'
  rw [List.length_take, Nat.min_eq_left (by omega)]
  exact hv'
/-- XmlInner -/
theorem xinner_law (hT : XTabs w0) (ht : Toks w0 v ts) {at_ n : Int} (h : St w0 G0 [] W) (k : ∀ W', St w0 G0 [] W' → RR (.bool true) W') : CallF Tryd.prog 8 #[v, .int .i64 at_, .int .i64 n] W RR := by
  refine sh8_calls ?_
  unfold sh8
  refine first_spec hT h fun W h => a_not (iff' ?_)
  refine few_spec ht h fun bf W hf h => a_not (ifnb (fun _ => first_spec hT h fun W h => k W h) fun hb => ?_)
  obtain ⟨hn, hsm⟩ := hf hb
  clear hf hb
  have ha : ∀ t ∈ ts, t.attrs.length ≤ 1000000 := fun t ht => by have := (hsm t ht).2; omega
  have hx : ∀ t ∈ ts, t.text.length ≤ 1000000 := fun t ht => by have := (hsm t ht).1; omega
  refine plain_spec ht (by omega) ha h fun vp W h tp => ?_
  have h0 := h
  have t0 := ht.below h.low
  have hT1 := xtabs_at hT h
  clear h ht hT
  have h := St.start W
  refine inner_spec t0 (by omega) ha hx h fun W h => a_ext0 (a_ext1 ?_)
  refine rinner_spec tp (by omega) hx h fun W h => a_ext0 (a_ext1 ?_)
  refine each_spec t0 h fun bE W h => ?_
  refine eachN_spec t0 (by omega) ha h fun c va vb W hc h sa tb => a_ext0 (a_ext1 ?_)
  obtain ⟨cs, hcs⟩ := tk_len t0
  refine w_max (x_lenS hcs (w_min (x_lenS sa (w_neq (ifd_neg (by omega) ?_)))))
  have hcl : c ≤ ts.length := by omega
  rw [show min (max n 0) (ts.length : Int) = (c : Int) by omega]
  refine tp.takeD hcl fun vq tq => ?_
  replace t0 := t0.below h.low
  replace tp := tp.below h.low
  replace tq := tq.below h.low
  replace hT1 := xtabs_at hT1 h
  replace h0 := h0.ext h.low
  clear h hcs
  have h := St.start W
  refine same_spec tb tq (by rw [List.length_take]; omega) (fun t ht => ha t (List.mem_of_mem_take ht)) h fun W h => ?_
  rw [decide_eq_true rfl]
  refine a_not (iff' ?_)
  refine lpx (α := Nat) (fun i => [nV .i64 i]) (fun i W' => i ≤ c ∧ W' = W) (fun i => c - i) 0 (fun _ => rfl) rfl ⟨Nat.zero_le _, rfl⟩ ?_
  rintro next i W1 hnext ⟨q1, rfl⟩
  refine app1 ?_
  have sa' := sa.below h.low
  refine x_lenS sa (a_lss (ifd (fun hc => ?_) fun hc => ?_))
  · have hi : i < c := by omega
    refine x_at sa' (idxL_get hi) (w_neq (ifd_neg (by omega) ?_))
    refine a_add64 (by omega) (by omega) ⟨rfl, rfl, rfl, rfl, rfl, rfl, rfl, ?_⟩
    rw [show ((i : Int) + 1) = ((i + 1 : Nat) : Int) by push_cast; rfl]
    exact hnext (i + 1) _ (by omega) ⟨by omega, rfl⟩
  clear hnext hc q1 sa'
  obtain ⟨ov, ho, hs, hat⟩ := t0
  obtain ⟨op, hp, hsp, hap⟩ := tp
  have l1 : ov.length = ts.length := by rw [← ho, List.length_map]
  have l2 : op.length = ts.length := by rw [← hp, List.length_map]
  refine lpx (α := Nat) (fun i => [nV .i64 i]) (fun i W' => 1 ≤ i ∧ St _ G0 [] W') (fun i => ts.length - i) 1 (fun _ => rfl) rfl ⟨Nat.le_refl _, h⟩ ?_
  clear h
  rintro next i W2 hnext ⟨q1, h⟩
  refine app1 ?_
  refine x_lenS hs (a_lss (ifd (fun hc => ?_) fun hc => ?_))
  · have hi : i < ts.length := by omega
    obtain ⟨q, rfl⟩ : ∃ q, i = q + 1 := ⟨i - 1, by omega⟩
    have ga : ts[q]? = some ts[q] := List.getElem?_eq_getElem (by omega)
    have gb : ts[q + 1]? = some (ts[q + 1]'hi) := List.getElem?_eq_getElem hi
    generalize ts[q] = t at ga
    generalize (ts[q + 1]'hi) = u at gb
    obtain ⟨xa, hxa⟩ := tk_ov ho ga
    obtain ⟨xb, hxb⟩ := tk_ov ho gb
    obtain ⟨ya, hya⟩ := tk_ov hp ga
    obtain ⟨yb, hyb⟩ := tk_ov hp gb
    have ma := List.mem_of_getElem? ga
    refine ⟨St _ G0 [], h.drew, ?_⟩
    replace h := h.drew
    have hS1 : ∀ w, St _ G0 [] w → Sl w 5 v ov.length (rcells tcell ov) := fun w hw => hs.below hw.low
    have hS2 : ∀ w, St _ G0 [] w → Sl w 5 vp op.length (rcells tcell op) := fun w hw => hsp.below hw.low
    have e1 : ((q + 1 : Nat) : Int) - 1 = (q : Int) := by omega
    refine a_sub64 (by omega) (by omega) ?_
    rw [e1]
    refine x_srcl tcell_len (hS1 _ h) hS1 rfl hxa ?_
    refine x_srcl tcell_len (hS1 _ h) hS1 rfl hxb ?_
    refine a_sub64 (by omega) (by omega) ?_
    rw [e1]
    refine x_srcl tcell_len (hS2 _ h) hS2 rfl hya ?_
    refine x_srcl tcell_len (hS2 _ h) hS2 rfl hyb ?_
    refine xsame_spec (hat _ (List.mem_of_getElem? hxa)).2 (hat _ (List.mem_of_getElem? hxb)).2 (ha _ ma) h fun W h => ⟨h, ?_⟩
    refine rsame_spec (hap _ (List.mem_of_getElem? hya)).2 (hap _ (List.mem_of_getElem? hyb)).2 (ha _ ma) h fun W h => ⟨h, ?_⟩
    refine s_neb' ?_
    rw [beq_self_eq_true]
    refine iff' (a_add64 (by omega) (by omega) ⟨rfl, rfl, rfl, rfl, rfl, rfl, ?_⟩)
    rw [show (((q + 1 : Nat) : Int) + 1) = ((q + 2 : Nat) : Int) by push_cast; omega]
    exact hnext (q + 2) _ (by omega) ⟨by omega, h⟩
  · refine first_spec hT1 h fun W h => ift ?_
    refine w_eqlL (ifd_pos rfl (w_eql ?_))
    rw [decide_eq_true rfl]
    exact k _ (h0.ext h.low).to
end
section
open Go.ChangeShapes Go.WideShapes
set_option maxRecDepth 100000 in
theorem at_of_cells {H : Type} {enc : TypeId × Value → H} {W : World} {base : Nat} {sp : Nat → Bool} {held : Bool} {fuel : Nat} {cs : List Value} {x : DataW H × List MemPlace} (hf : DataW.trod enc Tryd.prog W base sp held fuel 35 cs = some x) : ∃ a : XAt, cs = atc a ∧ True := by
  obtain ⟨xs, n, _, hx, hl, hlen, hfield⟩ := DataW.trod_struct Tryd.underlying35 hf
  have hn : Tryd.prog.cellsOf 35 = 3 := by kernel_rfl
  have hs1 : Tryd.prog.cellsOf 9 = 1 := by kernel_rfl
  rw [hn] at hl
  match hxs : xs, hlen with
  | [y0, y1, y2], _ =>
    match hcs : cs, hl with
    | [c0, c1, c2], _ =>
      have e0 := hfield 0 _ rfl
      have e1 := hfield 1 _ rfl
      have e2 := hfield 2 _ rfl
      replace e0 : DataW.trod enc Tryd.prog W base sp held n 9 (([c0, c1, c2].drop 0).take (Tryd.prog.cellsOf 9)) = some y0 := e0
      replace e1 : DataW.trod enc Tryd.prog W base sp held n 9 (([c0, c1, c2].drop 1).take (Tryd.prog.cellsOf 9)) = some y1 := e1
      replace e2 : DataW.trod enc Tryd.prog W base sp held n 9 (([c0, c1, c2].drop 2).take (Tryd.prog.cellsOf 9)) = some y2 := e2
      rw [hs1] at e0 e1 e2
      obtain ⟨f0, g0, _, _⟩ := DataW.trod_string Tryd.underlying9 e0
      obtain ⟨f1, g1, _, _⟩ := DataW.trod_string Tryd.underlying9 e1
      obtain ⟨f2, g2, _, _⟩ := DataW.trod_string Tryd.underlying9 e2
      replace g0 : [c0] = [Value.string f0] := g0
      replace g1 : [c1] = [Value.string f1] := g1
      replace g2 : [c2] = [Value.string f2] := g2
      cases g0; cases g1; cases g2
      exact ⟨⟨f0.data.toList, f1.data.toList, f2.data.toList⟩, rfl, trivial⟩
set_option maxRecDepth 100000 in
theorem toks_of_trod {H : Type} {enc : TypeId × Value → H} {W : World} {b0 base : Nat} {r : Reach} {sp : Nat → Bool} {held : Bool} {v : Value} {d : DataW H} {ps : List MemPlace}
    (hval : Value.okWide Tryd.prog W r b0 24 v) (hd : DataW.Trod enc Tryd.prog W base sp held 24 v d ps) : ∃ ts : List XTk, Toks W v ts := by
  suffices hh : ∀ (fuel : Nat) (cs : List Value) (x : DataW H × List MemPlace), DataW.trod enc Tryd.prog W base sp held fuel 30 cs = some x → ∃ a : XTk × Value, cs = tcell a ∧ (a.2.oneCell' = true ∧ Sl W 3 a.2 a.1.attrs.length (rcells atc a.1.attrs)) by
    obtain ⟨ov, hs, _, hq⟩ := sl_of_trod (enc := enc) (sz := 5) (t := 24) (e := 30) (α := XTk × Value) tcell (fun p => p.2.oneCell' = true ∧ Sl W 3 p.2 p.1.attrs.length (rcells atc p.1.attrs)) (fun _ => rfl) Tryd.underlying24 (by kernel_rfl) hh hval hd (by decide)
    exact ⟨ov.map Prod.fst, ov, rfl, hs, hq⟩
  intro fuel cs x hf
  obtain ⟨xs, n, _, hx, hl, hlen, hfield⟩ := DataW.trod_struct Tryd.underlying30 hf
  have hn : Tryd.prog.cellsOf 30 = 5 := by kernel_rfl
  have hi1 : Tryd.prog.cellsOf 3 = 1 := by kernel_rfl
  have hs1 : Tryd.prog.cellsOf 9 = 1 := by kernel_rfl
  have he1 : Tryd.prog.cellsOf 28 = 1 := by kernel_rfl
  rw [hn] at hl
  match hxs : xs, hlen with
  | [y0, y1, y2, y3, y4], _ =>
    match hcs : cs, hl with
    | [c0, c1, c2, c3, c4], _ =>
      have e0 := hfield 0 _ rfl
      have e1 := hfield 1 _ rfl
      have e2 := hfield 2 _ rfl
      have e3 := hfield 3 _ rfl
      have e4 := hfield 4 _ rfl
      replace e0 : DataW.trod enc Tryd.prog W base sp held n 3 (([c0, c1, c2, c3, c4].drop 0).take (Tryd.prog.cellsOf 3)) = some y0 := e0
      replace e1 : DataW.trod enc Tryd.prog W base sp held n 9 (([c0, c1, c2, c3, c4].drop 1).take (Tryd.prog.cellsOf 9)) = some y1 := e1
      replace e2 : DataW.trod enc Tryd.prog W base sp held n 9 (([c0, c1, c2, c3, c4].drop 2).take (Tryd.prog.cellsOf 9)) = some y2 := e2
      replace e3 : DataW.trod enc Tryd.prog W base sp held n 9 (([c0, c1, c2, c3, c4].drop 3).take (Tryd.prog.cellsOf 9)) = some y3 := e3
      replace e4 : DataW.trod enc Tryd.prog W base sp held n 28 (([c0, c1, c2, c3, c4].drop 4).take (Tryd.prog.cellsOf 28)) = some y4 := e4
      rw [hi1] at e0
      rw [hs1] at e1 e2 e3
      rw [he1] at e4
      replace e4 : DataW.trod enc Tryd.prog W base sp held n 28 [c4] = some y4 := e4
      obtain ⟨f0, g0, _, _⟩ := DataW.trod_int Tryd.underlying3 e0
      obtain ⟨f1, g1, _, _⟩ := DataW.trod_string Tryd.underlying9 e1
      obtain ⟨f2, g2, _, _⟩ := DataW.trod_string Tryd.underlying9 e2
      obtain ⟨f3, g3, _, _⟩ := DataW.trod_string Tryd.underlying9 e3
      replace g0 : [c0] = [Value.int .i64 f0] := g0
      replace g1 : [c1] = [Value.string f1] := g1
      replace g2 : [c2] = [Value.string f2] := g2
      replace g3 : [c3] = [Value.string f3] := g3
      cases g0; cases g1; cases g2; cases g3
      obtain ⟨l4, x4, _, _⟩ := sl_of_cells (enc := enc) (sz := 3) atc (fun _ => True) (fun _ => rfl) Tryd.underlying28 (by kernel_rfl) (fun fuel cs x hf => at_of_cells hf) e4 (by decide)
      exact ⟨(⟨f0, f1.data.toList, f2.data.toList, f3.data.toList, l4⟩, c4), rfl, one_slice x4, x4⟩
end
end Go.Proofs.YtlflpbflpcmckaaDoor
