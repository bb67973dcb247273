/-
  XML: the chapter's examples; XmlPairs: the walk.
-/
import Derived.Test.YtlflpbflpcmckaaDoorXmU
namespace Go.Ez.XRd
open Go Go.Ez
theorem chk_app : ∀ {a b done st : List XTk}, chk (a ++ b) done st = (chk a done st).bind fun st => chk b (done ++ a) st
  | [], b, done, st => by rw [List.nil_append, List.append_nil]; rfl
  | t :: a, b, done, st => by
    rw [List.cons_append]
    have ih := fun s => chk_app (a := a) (b := b) (done := done ++ [t]) (st := s)
    show (match chkStep done st t with | none => none | some st => chk (a ++ b) (done ++ [t]) st) = Option.bind (match chkStep done st t with | none => none | some st => chk a (done ++ [t]) st) fun st => chk b (done ++ t :: a) st
    cases chkStep done st t with
    | none => rfl
    | some st' =>
      simp only
      rw [ih, List.append_assoc, List.singleton_append]
theorem chk_at {ts : List XTk} {s : List XTk} (h : chk ts [] [] = some s) {i : Nat} {t : XTk} (hi : ts[i]? = some t) {st : List XTk} (hst : chk (ts.take i) [] [] = some st) : ∃ st', chkStep (ts.take i) st t = some st' ∧ chk (ts.take (i + 1)) [] [] = some st' := by
  have e1 : ts.take (i + 1) = ts.take i ++ [t] := by rw [List.take_add_one, hi]; rfl
  have e2 : chk (ts.take (i + 1)) [] [] = chkStep (ts.take i) st t := by
    rw [e1, chk_snoc, hst]; rfl
  have e3 := chk_app (a := ts.take (i + 1)) (b := ts.drop (i + 1)) (done := []) (st := [])
  rw [List.take_append_drop, h] at e3
  cases hx : chkStep (ts.take i) st t with
  | none => rw [e2, hx] at e3; cases e3
  | some st' => exact ⟨st', rfl, e2.trans hx⟩
end Go.Ez.XRd
namespace Go.Proofs.YtlflpbflpcmckaaDoor
open Go Go.Ez Go.RowKit Go.Lib
set_option linter.unusedSimpArgs false
set_option linter.unusedVariables false
def firstA : Txt := [60, 97, 32, 120, 61, 34, 49, 34, 62, 98, 38, 97, 109, 112, 59, 60, 33, 91, 67, 68, 65, 84, 65, 91, 60, 93, 93, 62, 60, 47, 97, 62]
def firstB : Txt := [60, 97, 58, 98, 47, 62]
theorem first_a : tokX firstA = ([⟨1, [], [97], [], [⟨[], [120], [49]⟩]⟩, ⟨3, [], [], [98, 38, 60], []⟩, ⟨2, [], [97], [], []⟩], 0) := by decide +kernel
theorem first_b : tokX firstB = ([], 4) := by decide +kernel
section
variable {w0 W W' : World} {G : Nat → Prop} {l R R1 R2 : List As} {RR : Value → World → Prop} {s : Txt} {v : Value} {ts : List XTk} {tk : XTk} {i : Nat} {K : Value → Prop} {k0 : IntKind}
theorem tk_ov {ov : List (XTk × Value)} (hov : ov.map Prod.fst = ts) (hi : ts[i]? = some tk) : ∃ va, ov[i]? = some (tk, va) := by
  rw [← hov, List.getElem?_map] at hi
  cases hx : ov[i]? with
  | none => rw [hx] at hi; cases hi
  | some p => rw [hx] at hi; cases hi; exact ⟨p.2, rfl⟩
theorem x_tkRow {f off : Nat} {ty : TypeId} {z u : Value} {n : Nat} {ov : List (XTk × Value)} [F : Fld Tryd.prog 30 f off] [T : Ty1 Tryd.prog ty z] (hs : Sl W 5 v n (rcells tcell ov)) (hn : n = ov.length) (hov : ov.map Prod.fst = ts) (hi : ts[i]? = some tk) (ho : off < 5) (hu : ∀ va, (tcell (tk, va))[off]? = some u) (k : K u) :
    RunA Tryd.prog (Instr.indexAt 24 v (.int k0 (i : Int))) fun p => RunA Tryd.prog (Instr.fieldAt 30 p f) fun q => RunW Tryd.prog (Instr.loadAt ty q) W K := by
  obtain ⟨va, hva⟩ := tk_ov hov hi
  have hil := (List.getElem?_eq_some_iff.1 hva).1
  exact x_fld hs (by omega) ho (by rw [rc_get tcell_len hva ho]; exact hu va) k
theorem x_tk {f off : Nat} {ty : TypeId} {z u : Value} [F : Fld Tryd.prog 30 f off] [T : Ty1 Tryd.prog ty z] (ht : Toks W v ts) (hi : ts[i]? = some tk) (ho : off < 5) (hu : ∀ va, (tcell (tk, va))[off]? = some u) (k : K u) :
    RunA Tryd.prog (Instr.indexAt 24 v (.int k0 (i : Int))) fun p => RunA Tryd.prog (Instr.fieldAt 30 p f) fun q => RunW Tryd.prog (Instr.loadAt ty q) W K := by
  obtain ⟨ov, h1, h2, _⟩ := ht
  exact x_tkRow h2 rfl h1 hi ho hu k
theorem tk_len (ht : Toks W v ts) : ∃ cs, Sl W 5 v ts.length cs := by
  obtain ⟨ov, h1, h2, _⟩ := ht
  exact ⟨_, by rw [← h1, List.length_map]; exact h2⟩
theorem first_spec (hT : XTabs w0) (h : St w0 G0 l W) (k : ∀ W', St w0 G0 l W' → RR (.bool true) W') : CallF Tryd.prog 9 #[] W RR := by
  refine sh9_calls ?_
  unfold sh9
  refine h.lit fun u1 W o1 h => ?_
  refine h.markB (v := u1) (by decide) fun W h => ?_
  refine tokens_spec hT (s := firstA) h (h.rsl (v := u1)) fun v1 W h t1 => a_ext0 (a_ext1 ?_)
  rw [first_a] at t1 ⊢
  have hT1 := xtabs_at hT h
  have h0 := h
  replace h := St.start W
  refine h.lit fun u2 W o2 h => ?_
  refine h.markB (v := u2) (by decide) fun W h => ?_
  refine tokens_spec hT1 (s := firstB) h (h.rsl (v := u2)) fun v2 W h t2 => a_ext0 (a_ext1 ?_)
  rw [first_b] at t2 ⊢
  replace t1 := t1.below h.low
  replace h0 := h0.ext h.low
  refine w_eql (ifd_pos rfl ?_)
  obtain ⟨cs, hcs⟩ := tk_len t1
  refine x_lenS hcs (w_eql (ifd_pos rfl ?_))
  refine x_tk (i := 0) t1 rfl (by decide) (fun va => rfl) (w_eql (ifd_pos rfl ?_))
  refine x_tk (i := 0) t1 rfl (by decide) (fun va => rfl) (w_eqlL (ifd_pos rfl ?_))
  refine x_tk (i := 1) t1 rfl (by decide) (fun va => rfl) (w_eqlL (ifd_pos rfl ?_))
  refine x_tk (i := 2) t1 rfl (by decide) (fun va => rfl) (w_eql (ifd_pos rfl ?_))
  exact w_eql (k _ h0.to)
/-- XmlPairs -/
theorem pairs_spec (hT : XTabs w0) (hv : By w0 v s) (h : St w0 G0 [] W) (k : ∀ W', St w0 G0 [] W' → RR (.bool true) W') : CallF Tryd.prog 3 #[v] W RR := by
  refine sh3_calls ?_
  unfold sh3
  refine first_spec hT h fun W h => a_not (iff' ?_)
  refine x_lenS hv (a_gtr (ifd (fun hc => ?_) fun hc => ?_))
  · exact first_spec hT h fun W h => k W h
  refine tokens_spec hT (s := s) h (hv.below h.low) fun v1 W h t1 => a_ext0 (a_ext1 ?_)
  have hp := XRd.tokens_pairs (dec := decX) (sgn := signS) (b := s) decX_ok
  rcases hp with ⟨he, hn⟩ | ⟨he, hch, h2⟩
  · refine w_neq (ifd_pos he ?_)
    refine first_spec hT h fun W' h' => ift ?_
    have t2 : Toks W v1 [] := by rw [← hn]; exact t1
    obtain ⟨ov, e1, e2, _⟩ := t2
    have : ov = [] := by simpa using e1
    subst this
    refine x_lenS e2 (w_eql ?_)
    exact k _ h'
  · refine w_neq (ifd_neg (fun hx => hx he) ?_)
    have htl := XRd.tokens_len (dec := decX) (sgn := signS) (b := s) decX_ok (fun q => part_len)
    generalize (XRd.tokens decX signS s).1 = ts at *
    have hT1 := xtabs_at hT h
    have h0 := h
    replace h := St.start W
    have hnil : St W G0 (Ky (.slice none 0 0) (TkS []) :: []) W := h.nilOw
    refine lpx (α := Nat × Value × List (XTk × Value)) (fun A => [A.2.1, nV .i64 A.1]) (fun A W' => A.1 ≤ ts.length ∧ XRd.chk (ts.take A.1) [] [] = some (A.2.2.map Prod.fst) ∧ (∀ p ∈ A.2.2, p.2.oneCell' = true) ∧ Cel1 A.2.1 ∧ St W G0 (Ky A.2.1 (TkS A.2.2) :: []) W') (fun A => ts.length - A.1) (0, .slice none 0 0, []) (fun _ => rfl) rfl ⟨Nat.zero_le _, rfl, by simp, ⟨rfl⟩, hnil⟩ ?_
    clear h hnil
    obtain ⟨ov, hov, hsl, hat⟩ := t1
    have hovl : ov.length = ts.length := by rw [← hov, List.length_map]
    rintro next ⟨i, vq, oq⟩ W1 hnext ⟨h1, hck, hone, ovq, h⟩
    simp only at h1 hck hone ovq h
    refine app2 ?_
    refine x_lenS (hsl.below h.low) ?_
    refine a_lss (ifd (fun hc => ?_) fun hc => ?_)
    · have hi : i < ts.length := by omega
      have ga : ts[i]? = some ts[i] := List.getElem?_eq_getElem hi
      generalize ts[i] = t at ga
      obtain ⟨st', hstep, hck'⟩ := XRd.chk_at hch ga hck
      have hst : St _ G0 _ _ := h
      refine x_tkRow (u := .int .i64 t.kind) (hsl.below h.low) rfl hov ga (by decide) (fun va => rfl) ?_
      refine jni (fun vs W' => ∃ (vq' : Value) (oq' : List (XTk × Value)), vs = [v1, vq', nV .i64 i] ∧ oq'.map Prod.fst = st' ∧ oq'.length ≤ 64 ∧ (∀ p ∈ oq', p.2.oneCell' = true) ∧ Cel1 vq' ∧ St W G0 (Ky vq' (TkS oq') :: []) W') ?_ ?_
      · rintro vs W2 _ ⟨vq', oq', rfl, g1, g2, g3, g4, h⟩
        refine app3 ?_
        refine x_lenS (h.osl (v := vq')) (a_gtr (ifd_neg (by omega) ?_))
        refine a_add64 (by omega) (by omega) ⟨rfl, ?_⟩
        rw [show ((i : Int) + 1) = ((i + 1 : Nat) : Int) by push_cast; rfl]
        exact hnext (i + 1, vq', oq') W2 (by simp only; omega) ⟨by simp only; omega, by simp only; rw [g1]; exact hck', g3, g4, h⟩
      · have hlim : ∀ {st : List XTk}, XRd.lim st = some st' → st' = st ∧ st.length ≤ 64 := fun {st} hx => by
          unfold XRd.lim at hx
          split at hx
          · cases hx
          · cases hx; exact ⟨rfl, by omega⟩
        unfold XRd.chkStep at hstep
        refine w_eql (ifd (fun hk => ?_) fun hk => ?_)
        · rw [if_pos hk] at hstep
          split at hstep
          · cases hstep
          rename_i hno
          obtain ⟨rfl, hl⟩ := hlim hstep
          refine jni (fun vs W' => vs = [v1, vq, nV .i64 i] ∧ W' = W1) ?_ ?_
          · rintro vs W2 _ ⟨rfl, rfl⟩
            refine app3 ?_
            obtain ⟨va, hva⟩ := tk_ov hov ga
            refine x_rcl tcell_len (hsl.below h.low) rfl hva ?_
            have hva1 := (hat _ (List.mem_of_getElem? hva)).1
            rw [List.length_append, List.length_map, List.length_singleton] at hl
            refine h.lit fun uu W2 ou h => ?_
            have hol : oq.length ≤ 64 := by omega
            refine h.app (v := vq) (h.osl (v := uu)) (by intro a ha; simp only [List.mem_cons, List.not_mem_nil, or_false] at ha; rcases ha with rfl | rfl | rfl | rfl | rfl; rfl; rfl; rfl; rfl; exact hva1) (by unfold maxLen; omega) (by omega) fun vq' W2 o' h _ => ?_
            have e1 : oq.length + 1 = (oq ++ [(t, va)]).length := by simp
            have e2 : rcells tcell oq ++ tcell (t, va) = rcells tcell (oq ++ [(t, va)]) := by rw [rc_append, rc_single]
            rw [e2, e1] at h
            refine ⟨vq', oq ++ [(t, va)], rfl, by rw [List.map_append]; rfl, by rw [List.length_append, List.length_singleton]; omega, fun p hp => ?_, o', h.to⟩
            rcases List.mem_append.1 hp with hp | hp
            · exact hone p hp
            · rw [List.mem_singleton.1 hp]; exact hva1
          · have nm : RunA Tryd.prog (Instr.indexAt 24 v1 (.int .i64 (i : Int))) fun t49 =>
                RunA Tryd.prog (Instr.fieldAt 30 t49 2) fun t50 =>
                RunW Tryd.prog (Instr.loadAt 9 t50) W1 fun t51 =>
                RunW Tryd.prog (bin .eql 9 (.tmp 51) (.const (.string ⟨#[]⟩)) t51 (.string ⟨#[]⟩)) W1 fun t52 =>
                IfB t52 (RR (.bool false) W1) ([v1, vq, nV .i64 i] = [v1, vq, nV .i64 i] ∧ W1 = W1) :=
              x_tkRow (u := strV t.name) (hsl.below h.low) rfl hov ga (by decide) (fun va => rfl) (w_eqlL (ifd_neg (fun hn => hno (.inr hn)) ⟨rfl, rfl⟩))
            refine x_lenS (h.osl (v := vq)) (w_eql (ifd (fun h0q => a_gtr (ifd (fun hgt => ?_) fun hgt => nm)) fun h0q => nm))
            refine absurd (Or.inl ⟨?_, fun e => ?_⟩) hno
            · have : oq = [] := List.eq_nil_of_length_eq_zero (by omega)
              rw [this]; rfl
            · have := congrArg List.length e
              rw [List.length_take, List.length_nil] at this
              omega
        rw [if_neg hk] at hstep
        refine jni (fun vs W' => ∃ (vq' : Value) (oq' : List (XTk × Value)), vs = [v1, vq', nV .i64 i] ∧ oq'.map Prod.fst = st' ∧ oq'.length ≤ 64 ∧ (∀ p ∈ oq', p.2.oneCell' = true) ∧ Cel1 vq' ∧ St W G0 (Ky vq' (TkS oq') :: []) W') (by rintro vs W2 _ ⟨vq', oq', rfl, hh⟩; exact app3 ⟨vq', oq', rfl, hh⟩) ?_
        refine w_eql (ifd (fun hk2 => ?_) fun hk2 => ?_)
        · rw [if_pos hk2] at hstep
          rcases List.eq_nil_or_concat oq with rfl | ⟨oq', x, hoq⟩
          · cases hstep
          rw [List.concat_eq_append] at hoq
          obtain ⟨uu, vu⟩ := x
          rw [hoq, List.map_append] at hstep
          simp only [List.map_cons, List.map_nil, List.getLast?_append, List.getLast?_singleton, Option.some_or] at hstep
          split at hstep
          · cases hstep
          rename_i hno
          obtain ⟨hst', hl⟩ := hlim hstep
          rw [List.dropLast_concat] at hst' hl
          rw [List.length_map] at hl
          have hol : oq.length = oq'.length + 1 := by rw [hoq]; simp
          have hlast : oq[oq'.length]? = some (uu, vu) := by rw [hoq, List.getElem?_append_right (Nat.le_refl _), Nat.sub_self]; rfl
          obtain ⟨va, hva⟩ := tk_ov hov ga
          have hlastc : ∀ j u, j < 5 → (tcell (uu, vu))[j]? = some u → (rcells tcell oq)[oq'.length * 5 + j]? = some u := fun j u hj hu => by rw [rc_get tcell_len hlast hj]; exact hu
          have htc : ∀ j u, j < 5 → (tcell (t, va))[j]? = some u → (rcells tcell ov)[i * 5 + j]? = some u := fun j u hj hu => by rw [rc_get tcell_len hva hj]; exact hu
          refine ⟨St W G0 (Ky vq (TkS oq) :: []), h.drew, ?_⟩
          replace h := h.drew
          have hS1 : ∀ w, St W G0 (Ky vq (TkS oq) :: []) w → Sl w 5 vq oq.length (rcells tcell oq) := fun w hw => hw.osl (v := vq)
          have hS2 : ∀ w, St W G0 (Ky vq (TkS oq) :: []) w → Sl w 5 v1 ov.length (rcells tcell ov) := fun w hw => hsl.below hw.low
          refine x_lenSs (hS1 _ h) (s_eql (ifd_neg (by omega) ?_))
          refine x_lenSs (hS1 _ h) (a_sub64 (by omega) (by omega) ?_)
          rw [show ((oq.length : Int) - 1) = ((oq'.length : Nat) : Int) by omega]
          refine x_sfld (hS1 _ h) hS1 (by omega) (by decide) (hlastc 2 (strV uu.name) (by decide) rfl) ?_
          refine x_sfld (hS2 _ h) hS2 (by omega) (by decide) (htc 2 (strV t.name) (by decide) rfl) ?_
          refine s_neqL (ifd_neg (fun hn => hno (.inl hn)) ?_)
          refine x_lenSs (hS1 _ h) (a_sub64 (by omega) (by omega) ?_)
          rw [show ((oq.length : Int) - 1) = ((oq'.length : Nat) : Int) by omega]
          refine x_sfld (hS1 _ h) hS1 (by omega) (by decide) (hlastc 1 (strV uu.space) (by decide) rfl) ?_
          refine x_sfld (hS2 _ h) hS2 (by omega) (by decide) (htc 1 (strV t.space) (by decide) rfl) ?_
          refine s_neqL (ifd_neg (fun hn => hno (.inr hn)) ?_)
          refine x_lenS (hS1 _ h) (a_sub64 (by omega) (by omega) ?_)
          rw [show ((oq.length : Int) - 1) = ((oq'.length : Nat) : Int) by omega]
          refine x_cutOw (v := vq) (k := oq'.length) h (by omega) ?_
          replace h := h.cutOw (v := vq) (k := oq'.length) (by omega)
          have e2 : (rcells tcell oq).take (oq'.length * 5) = rcells tcell oq' := by
            rw [← rc_take tcell_len, hoq, List.take_left]
          rw [e2] at h
          exact ⟨cutV vq oq'.length, oq', rfl, hst'.symm, hl, fun p hp => hone p (by rw [hoq]; exact List.mem_append_left _ hp), .of_own (h.ow (v := cutV vq oq'.length)), h⟩
        rw [if_neg hk2] at hstep
        refine w_eql (ifd (fun hk3 => ?_) fun hk3 => ?_)
        · rw [if_pos hk3] at hstep
          split at hstep
          · cases hstep
          rename_i hno
          obtain ⟨rfl, hl⟩ := hlim hstep
          rw [List.length_map] at hl
          have hne : oq ≠ [] := fun e => hno (.inl (by rw [e]; rfl))
          have hpos := List.length_pos_iff.2 hne
          have hi0 : 0 < i := by
            refine Nat.pos_of_ne_zero fun e => ?_
            subst e
            rw [List.take_zero] at hck
            have := Option.some.inj hck
            exact hne (by simpa using this.symm)
          obtain ⟨tp, gp⟩ : ∃ tp, ts[i - 1]? = some tp := ⟨_, List.getElem?_eq_getElem (by omega)⟩
          have hprev : (ts.take i).getLast? = some tp := by
            rw [List.getLast?_eq_getElem?, List.length_take, Nat.min_eq_left (by omega), List.getElem?_take, if_pos (by omega)]
            exact gp
          refine x_lenS (h.osl (v := vq)) (w_eql (ifd_neg (by omega) ?_))
          refine x_tkRow (u := strV t.text) (hsl.below h.low) rfl hov ga (by decide) (fun va => rfl) (w_eqlL (ifd_neg (fun hn => hno (.inr (.inl hn))) ?_))
          refine x_tkRow (u := strV t.text) (hsl.below h.low) rfl hov ga (by decide) (fun va => rfl) (x_len (a_gtr (ifd_neg (fun hn => hno (.inr (.inr (.inl (by omega))))) ?_)))
          refine a_sub64 (by omega) (by omega) ?_
          rw [show ((i : Int) - 1) = ((i - 1 : Nat) : Int) by omega]
          refine x_tkRow (u := .int .i64 tp.kind) (hsl.below h.low) rfl hov gp (by decide) (fun va => rfl) (w_eql (ifd_neg (fun hn => hno (.inr (.inr (.inr ?_)))) ?_))
          · rw [hprev]; exact congrArg some hn
          · exact ⟨vq, oq, rfl, rfl, hl, hone, ovq, h⟩
        · rw [if_neg hk3] at hstep
          cases hstep
    · have hi : i = ts.length := by omega
      rw [hi, List.take_length, hch] at hck
      have hoq : oq = [] := by
        have := Option.some.inj hck
        simpa using this.symm
      subst hoq
      refine first_spec hT1 h fun W2 h => ift ?_
      refine x_lenS (h.osl (v := vq)) (w_eql (ifd_pos rfl ?_))
      refine x_lenS (hsl.below h.low) (a_geq ?_)
      rw [decide_eq_true (by omega)]
      exact k _ (h0.ext h.low)
end
end Go.Proofs.YtlflpbflpcmckaaDoor
