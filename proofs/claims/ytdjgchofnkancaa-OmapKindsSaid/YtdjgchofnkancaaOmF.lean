/-
  MAPS IN ORDER: the first pairs of what is ranged over; what the chapter's examples fix: what each function answers.
-/
import Derived.Test.YtdjgchofnkancaaOmKis
import Derived.Test.YtdjgchofnkancaaOmEsi
import Derived.Test.YtdjgchofnkancaaOmEis
namespace Go.Proofs.Ytdjgchofnkancaa
open Go Go.Ez Go.RowKit
set_option linter.unusedSimpArgs false
set_option linter.unusedVariables false

section
variable {w0 W : World} {G : Nat → Prop} {l R : List As} {RR : Value → World → Prop} {f : Value} {A : Value → As}

/-- what pairs has told -/
def PrC (bn ba bb : Nat) (n : Int) (m : List (Int × Txt)) (i : Nat) : As := As.ex fun v : Value × Value =>
  As.all True [Ky bn (Ob (.cells [(.int .i64 n : Value)].toArray 3 (0, 0))), Ky ba (Ob (.cells [v.1].toArray 46 (0, 0))), Ky bb (Ob (.cells [v.2].toArray 22 (0, 0))),
    Ky v.1 (Ow 3 1 i (((m.take i).map Prod.fst).map Enc.enc)), Ky v.2 (Ow 9 1 i (((m.take i).map Prod.snd).map Enc.enc))]

/-- hbllaw2.pairs -/
theorem pairs_spec {m : List (Int × Txt)} {n : Int} [i : Has l f A R] (hI : Itr Try.prog w0 G f (tellis m) A) (h : St w0 G l W) (hm : m.length ≤ 1000000)
    (k : ∀ va vb W', Cel1 va → Cel1 vb → St w0 G (Ky va (Ow 3 1 (m.take n.toNat).length (((m.take n.toNat).map Prod.fst).map Enc.enc)) :: Ky vb (Ow 9 1 (m.take n.toNat).length (((m.take n.toNat).map Prod.snd).map Enc.enc)) :: Ky f A :: R) W' → RR (.tuple #[va, vb]) W') :
    CallF Try.prog 35 #[f, .int .i64 n] W RR := by
  refine sh35_calls ?_
  unfold sh35
  obtain ⟨gf, lb, rfl, _⟩ := id hI
  replace h := h.find (k := (.func (.func gf) #[] lb : Value)) (X := A)
  refine h.boxV fun bn W h => ?_
  refine h.alloc fun ba W h => ?_
  refine h.alloc fun bb W h => ?_
  (repeat (first | (with_reducible refine ift ?_) | (with_reducible refine iff' ?_) | (with_reducible refine a_lss ?_) | (with_reducible refine a_leq ?_) | (with_reducible refine a_gtr ?_) | (with_reducible refine a_geq ?_) | (with_reducible refine w_eql ?_) | (with_reducible refine w_neq ?_) | (with_reducible refine s_eql ?_) | (with_reducible refine s_neq ?_) | ((with_reducible refine a_add64 ?h0 ?h1 ?_); (case h0 => omega); (case h1 => omega);  skip) | ((with_reducible refine a_sub64 ?h0 ?h1 ?_); (case h0 => omega); (case h1 => omega);  skip) | ((with_reducible refine a_mul64 ?h0 ?h1 ?_); (case h0 => omega); (case h1 => omega);  skip) | (with_reducible refine a_notd ?_) | (with_reducible refine a_not ?_) | (with_reducible refine a_ext0 ?_) | (with_reducible refine a_ext1 ?_) | (with_reducible refine a_ext2 ?_) | (with_reducible refine x_len ?_) | (with_reducible refine x_lens ?_) | (with_reducible refine x_eqb ?_) | (with_reducible refine x_neb ?_) | (with_reducible refine x_nilP ?_) | (with_reducible refine x_nilPn ?_) | (with_reducible refine x_nilF ?_) | (with_reducible refine x_nilFF ?_) | (with_reducible refine w_eqlL ?_) | (with_reducible refine w_neqL ?_) | (with_reducible refine s_eqlL ?_) | (with_reducible refine ifnt ?_) | (with_reducible refine ifnf ?_) | (with_reducible refine x_eqB ?_) | (with_reducible refine x_neB ?_) | (with_reducible refine x_lssL ?_) | (with_reducible refine x_gtrL ?_) | (with_reducible refine x_geqL ?_) | (with_reducible refine s_neqL ?_) | (with_reducible refine St.load h ?_) | (with_reducible refine St.loadS h ?_) | (with_reducible refine a_fld0 ?_) | (with_reducible refine St.store h fun W h => ?_) | (with_reducible refine St.storeS h fun W h => ?_) | (with_reducible refine St.alloc h fun b W h => ?_) | (with_reducible refine St.allocS h fun b W h => ?_) | (with_reducible refine a_nil ?_) | (with_reducible refine ss_load ?_) | (with_reducible refine ss_loadS ?_) | (with_reducible refine ss_eqb ?_)))
  have nil2 : ∀ (W : World) (l : List As), St w0 G l W → St w0 G (Ky (.slice none 0 0) (Ow 3 1 0 []) :: Ky (.slice none 0 0) (Ow 9 1 0 []) :: l) W := fun W l h => (h.nilOw).nilOw
  refine ifd (fun hc => ?_) fun hc => ?_
  · have e : n.toNat = 0 := by omega
    simp only [e, List.take_zero, List.map_nil, List.length_nil] at k
    refine k _ _ W ⟨rfl⟩ ⟨rfl⟩ ?_
    have h1 : St w0 G (Ky (.func (.func gf) #[] lb : Value) A :: R) W := h.to
    exact nil2 _ _ h1
  have hlen : ∀ x ∈ tellis m, x.length = 2 := by
    intro x hx
    obtain ⟨p, _, rfl⟩ := List.mem_map.1 hx
    rfl
  have h0 : St w0 G (PrC bn ba bb n m 0 :: Ky (.func (.func gf) #[] lb : Value) A :: R) W := by
    refine St.shutE (.slice none 0 0, .slice none 0 0) (St.shut5 trivial ?_)
    have h1 : St w0 G (Ky bn (Ob (.cells [(.int .i64 n : Value)].toArray 3 (0, 0))) :: Ky ba (Ob (.cells [(.slice none 0 0 : Value)].toArray 46 (0, 0))) :: Ky bb (Ob (.cells [(.slice none 0 0 : Value)].toArray 22 (0, 0))) :: Ky (.func (.func gf) #[] lb : Value) A :: R) W := h.to
    have h2 := nil2 _ _ h1
    obtain ⟨F, hF, hG⟩ := h2.own
    refine { h2 with own := ⟨F, ?_, hG⟩ }
    have sw := fun {F : Nat → Prop} {w : World} {A B : As} {l : List As} (h : sepL (A :: B :: l) F w) => sepL_swap h
    -- the two behind the three
    have s1 := sepL_mono (fun F w h => sepL_swap h) hF
    have s2 := sepL_mono (fun F w h => sepL_mono (fun F w h => sepL_swap h) h) s1
    have s3 := sepL_mono (fun F w h => sepL_mono (fun F w h => sepL_mono (fun F w h => sepL_swap h) h) h) s2
    have s4 := sepL_swap s3
    have s5 := sepL_mono (fun F w h => sepL_swap h) s4
    exact sepL_mono (fun F w h => sepL_mono (fun F w h => sepL_swap h) h) s5
  refine rngI (C := fun i => As.all ((i : Int) < n) [PrC bn ba bb n m i]) (fun c i => As.all (c = .exit 0 ∧ (i : Int) = n) [PrC bn ba bb n m i]) hI hlen (l := R) ?_ ?_ ?_ ?_
  · exact St.shut1 (by omega) h0
  · intro i x hxi ll rec I' W kn kst h hn hk
    obtain ⟨p, hp, rfl⟩ : ∃ p, m[i]? = some p ∧ x = [Enc.enc p.1, Enc.enc p.2] := by
      rw [List.getElem?_map] at hxi
      cases hp : m[i]? with
      | none => rw [hp] at hxi; cases hxi
      | some p => rw [hp] at hxi; cases hxi; exact ⟨p, rfl, rfl⟩
    have hil := (List.getElem?_eq_some_iff.1 hp).1
    refine app2 ?_
    refine ⟨h.ob (b := ll), ?_⟩
    replace h := h.putO (b := ll) (o := .loop (rec .ready none)) (.loop (rec .busy none))
    obtain ⟨hin, h⟩ := St.open1 h.swap
    obtain ⟨⟨va, vb⟩, h⟩ := St.openE h
    replace h := (St.open5 h).2
    have oa : Cel1 va := .of_own (h.ow (v := va))
    have ob : Cel1 vb := .of_own (h.ow (v := vb))
    have e1 : ((m.take i).map Prod.fst).map (Enc.enc (κ := Int)) ++ [Enc.enc p.1] = ((m.take (i + 1)).map Prod.fst).map Enc.enc := by
      rw [List.take_add_one, hp]; simp
    have e2 : ((m.take i).map Prod.snd).map (Enc.enc (κ := Txt)) ++ [Enc.enc p.2] = ((m.take (i + 1)).map Prod.snd).map Enc.enc := by
      rw [List.take_add_one, hp]; simp
    generalize W.putObj ll (.loop (rec .busy none)) = Wb at *
    refine app5 ?_
    refine jni (fun vs W => vs = [.pointer (some ⟨bn, 0, none⟩), .pointer (some ⟨ba, 0, none⟩)] ∧ ∃ va vb, St w0 G (Ky bn (Ob (.cells [(.int .i64 n : Value)].toArray 3 (0, 0))) :: Ky ba (Ob (.cells [va].toArray 46 (0, 0))) :: Ky bb (Ob (.cells [vb].toArray 22 (0, 0))) ::
      Ky va (Ow 3 1 (i + 1) (((m.take (i + 1)).map Prod.fst).map Enc.enc)) :: Ky vb (Ow 9 1 (i + 1) (((m.take (i + 1)).map Prod.snd).map Enc.enc)) :: Ky ll (Ob (.loop (rec .busy none))) :: I') W) ?_ ?_
    · rintro vs W _ ⟨rfl, va, vb, h⟩
      refine app2 ?_
      (repeat (first | (with_reducible refine ift ?_) | (with_reducible refine iff' ?_) | (with_reducible refine a_lss ?_) | (with_reducible refine a_leq ?_) | (with_reducible refine a_gtr ?_) | (with_reducible refine a_geq ?_) | (with_reducible refine w_eql ?_) | (with_reducible refine w_neq ?_) | (with_reducible refine s_eql ?_) | (with_reducible refine s_neq ?_) | ((with_reducible refine a_add64 ?h0 ?h1 ?_); (case h0 => omega); (case h1 => omega);  skip) | ((with_reducible refine a_sub64 ?h0 ?h1 ?_); (case h0 => omega); (case h1 => omega);  skip) | ((with_reducible refine a_mul64 ?h0 ?h1 ?_); (case h0 => omega); (case h1 => omega);  skip) | (with_reducible refine a_notd ?_) | (with_reducible refine a_not ?_) | (with_reducible refine a_ext0 ?_) | (with_reducible refine a_ext1 ?_) | (with_reducible refine a_ext2 ?_) | (with_reducible refine x_len ?_) | (with_reducible refine x_lens ?_) | (with_reducible refine x_eqb ?_) | (with_reducible refine x_neb ?_) | (with_reducible refine x_nilP ?_) | (with_reducible refine x_nilPn ?_) | (with_reducible refine x_nilF ?_) | (with_reducible refine x_nilFF ?_) | (with_reducible refine w_eqlL ?_) | (with_reducible refine w_neqL ?_) | (with_reducible refine s_eqlL ?_) | (with_reducible refine ifnt ?_) | (with_reducible refine ifnf ?_) | (with_reducible refine x_eqB ?_) | (with_reducible refine x_neB ?_) | (with_reducible refine x_lssL ?_) | (with_reducible refine x_gtrL ?_) | (with_reducible refine x_geqL ?_) | (with_reducible refine s_neqL ?_) | (with_reducible refine St.load h ?_) | (with_reducible refine St.loadS h ?_) | (with_reducible refine a_fld0 ?_) | (with_reducible refine St.store h fun W h => ?_) | (with_reducible refine St.storeS h fun W h => ?_) | (with_reducible refine St.alloc h fun b W h => ?_) | (with_reducible refine St.allocS h fun b W h => ?_) | (with_reducible refine a_nil ?_) | (with_reducible refine ss_load ?_) | (with_reducible refine ss_loadS ?_) | (with_reducible refine ss_eqb ?_)))
      refine x_lenS (h.osl (v := va)) ?_
      (repeat (first | (with_reducible refine ift ?_) | (with_reducible refine iff' ?_) | (with_reducible refine a_lss ?_) | (with_reducible refine a_leq ?_) | (with_reducible refine a_gtr ?_) | (with_reducible refine a_geq ?_) | (with_reducible refine w_eql ?_) | (with_reducible refine w_neq ?_) | (with_reducible refine s_eql ?_) | (with_reducible refine s_neq ?_) | ((with_reducible refine a_add64 ?h0 ?h1 ?_); (case h0 => omega); (case h1 => omega);  skip) | ((with_reducible refine a_sub64 ?h0 ?h1 ?_); (case h0 => omega); (case h1 => omega);  skip) | ((with_reducible refine a_mul64 ?h0 ?h1 ?_); (case h0 => omega); (case h1 => omega);  skip) | (with_reducible refine a_notd ?_) | (with_reducible refine a_not ?_) | (with_reducible refine a_ext0 ?_) | (with_reducible refine a_ext1 ?_) | (with_reducible refine a_ext2 ?_) | (with_reducible refine x_len ?_) | (with_reducible refine x_lens ?_) | (with_reducible refine x_eqb ?_) | (with_reducible refine x_neb ?_) | (with_reducible refine x_nilP ?_) | (with_reducible refine x_nilPn ?_) | (with_reducible refine x_nilF ?_) | (with_reducible refine x_nilFF ?_) | (with_reducible refine w_eqlL ?_) | (with_reducible refine w_neqL ?_) | (with_reducible refine s_eqlL ?_) | (with_reducible refine ifnt ?_) | (with_reducible refine ifnf ?_) | (with_reducible refine x_eqB ?_) | (with_reducible refine x_neB ?_) | (with_reducible refine x_lssL ?_) | (with_reducible refine x_gtrL ?_) | (with_reducible refine x_geqL ?_) | (with_reducible refine s_neqL ?_) | (with_reducible refine St.load h ?_) | (with_reducible refine St.loadS h ?_) | (with_reducible refine a_fld0 ?_) | (with_reducible refine St.store h fun W h => ?_) | (with_reducible refine St.storeS h fun W h => ?_) | (with_reducible refine St.alloc h fun b W h => ?_) | (with_reducible refine St.allocS h fun b W h => ?_) | (with_reducible refine a_nil ?_) | (with_reducible refine ss_load ?_) | (with_reducible refine ss_loadS ?_) | (with_reducible refine ss_eqb ?_)))
      refine ifd (fun hc => ?_) fun hc => ?_
      · exact hk (.exit 0) W (St.swap (St.shut1 ⟨rfl, hc⟩ (St.shutE (va, vb) (St.shut5 trivial h.to))))
      · exact hn W (St.swap (St.shut1 (by omega) (St.shutE (va, vb) (St.shut5 trivial h.to))))
    · refine ⟨fun W' => Rec W' ba 46 [va] ∧ Rec W' bb 22 [vb], ⟨h.drew.rc, h.drew.rc⟩, ?_⟩
      replace h := h.drew
      refine s_ld (t := 46) (cs := [va]) (fun w hw => hw.1) rfl ?_
      refine s_ld (t := 22) (cs := [vb]) (fun w hw => hw.2) rfl ?_
      -- the two stores
      have stores : ∀ (W : World) (va' vb' : Value), Cel1 va' → Cel1 vb' → St w0 G (Ky bn (Ob (.cells [(.int .i64 n : Value)].toArray 3 (0, 0))) :: Ky ba (Ob (.cells [va].toArray 46 (0, 0))) :: Ky bb (Ob (.cells [vb].toArray 22 (0, 0))) ::
          Ky va' (Ow 3 1 (i + 1) (((m.take (i + 1)).map Prod.fst).map Enc.enc)) :: Ky vb' (Ow 9 1 (i + 1) (((m.take (i + 1)).map Prod.snd).map Enc.enc)) :: Ky ll (Ob (.loop (rec .busy none))) :: I') W →
          RunU Try.prog (Instr.storeAt 46 (.pointer (some ⟨ba, 0, none⟩)) va') W fun w => RunU Try.prog (Instr.storeAt 22 (.pointer (some ⟨bb, 0, none⟩)) vb') w fun w =>
            (fun (vs : List Value) (W : World) => vs = [.pointer (some ⟨bn, 0, none⟩), .pointer (some ⟨ba, 0, none⟩)] ∧ ∃ va vb, St w0 G (Ky bn (Ob (.cells [(.int .i64 n : Value)].toArray 3 (0, 0))) :: Ky ba (Ob (.cells [va].toArray 46 (0, 0))) :: Ky bb (Ob (.cells [vb].toArray 22 (0, 0))) ::
              Ky va (Ow 3 1 (i + 1) (((m.take (i + 1)).map Prod.fst).map Enc.enc)) :: Ky vb (Ow 9 1 (i + 1) (((m.take (i + 1)).map Prod.snd).map Enc.enc)) :: Ky ll (Ob (.loop (rec .busy none))) :: I') W) [.pointer (some ⟨bn, 0, none⟩), .pointer (some ⟨ba, 0, none⟩)] w := by
        intro W va' vb' oa ob h
        (repeat (first | (with_reducible refine ift ?_) | (with_reducible refine iff' ?_) | (with_reducible refine a_lss ?_) | (with_reducible refine a_leq ?_) | (with_reducible refine a_gtr ?_) | (with_reducible refine a_geq ?_) | (with_reducible refine w_eql ?_) | (with_reducible refine w_neq ?_) | (with_reducible refine s_eql ?_) | (with_reducible refine s_neq ?_) | ((with_reducible refine a_add64 ?h0 ?h1 ?_); (case h0 => omega); (case h1 => omega);  skip) | ((with_reducible refine a_sub64 ?h0 ?h1 ?_); (case h0 => omega); (case h1 => omega);  skip) | ((with_reducible refine a_mul64 ?h0 ?h1 ?_); (case h0 => omega); (case h1 => omega);  skip) | (with_reducible refine a_notd ?_) | (with_reducible refine a_not ?_) | (with_reducible refine a_ext0 ?_) | (with_reducible refine a_ext1 ?_) | (with_reducible refine a_ext2 ?_) | (with_reducible refine x_len ?_) | (with_reducible refine x_lens ?_) | (with_reducible refine x_eqb ?_) | (with_reducible refine x_neb ?_) | (with_reducible refine x_nilP ?_) | (with_reducible refine x_nilPn ?_) | (with_reducible refine x_nilF ?_) | (with_reducible refine x_nilFF ?_) | (with_reducible refine w_eqlL ?_) | (with_reducible refine w_neqL ?_) | (with_reducible refine s_eqlL ?_) | (with_reducible refine ifnt ?_) | (with_reducible refine ifnf ?_) | (with_reducible refine x_eqB ?_) | (with_reducible refine x_neB ?_) | (with_reducible refine x_lssL ?_) | (with_reducible refine x_gtrL ?_) | (with_reducible refine x_geqL ?_) | (with_reducible refine s_neqL ?_) | (with_reducible refine St.load h ?_) | (with_reducible refine St.loadS h ?_) | (with_reducible refine a_fld0 ?_) | (with_reducible refine St.store h fun W h => ?_) | (with_reducible refine St.storeS h fun W h => ?_) | (with_reducible refine St.alloc h fun b W h => ?_) | (with_reducible refine St.allocS h fun b W h => ?_) | (with_reducible refine a_nil ?_) | (with_reducible refine ss_load ?_) | (with_reducible refine ss_loadS ?_) | (with_reducible refine ss_eqb ?_)))
        exact ⟨rfl, va', vb', h.to⟩
      have one1 : ∀ c ∈ ([Enc.enc p.1] : List Value), c.oneCell' = true := by simp [Enc.one]
      have one2 : ∀ c ∈ ([Enc.enc p.2] : List Value), c.oneCell' = true := by simp [Enc.one]
      have aA : ∀ (W : World) (l R : List As) (u : Value) (KK : Value → World → Prop) [Has l va (Ow 3 1 i (((m.take i).map Prod.fst).map Enc.enc)) R], St w0 G l W → Sl W 1 u 1 [Enc.enc p.1] → (∀ v' W', Cel1 v' → St w0 G (Ky v' (Ow 3 1 (i + 1) (((m.take (i + 1)).map Prod.fst).map Enc.enc)) :: R) W' → KK v' W') →
          RunV Try.prog (Builtin.append_ #[46, 46] 46 #[va, u]) W KK := by
        intro W l R u KK hh h hu hk
        exact h.app (v := va) hu one1 (by unfold maxLen; omega) (by omega) fun v' W' o' h' _ => hk v' W' o' (by rw [e1] at h'; exact h')
      have aB : ∀ (W : World) (l R : List As) (u : Value) (KK : Value → World → Prop) [Has l vb (Ow 9 1 i (((m.take i).map Prod.snd).map Enc.enc)) R], St w0 G l W → Sl W 1 u 1 [Enc.enc p.2] → (∀ v' W', Cel1 v' → St w0 G (Ky v' (Ow 9 1 (i + 1) (((m.take (i + 1)).map Prod.snd).map Enc.enc)) :: R) W' → KK v' W') →
          RunV Try.prog (Builtin.append_ #[22, 22] 22 #[vb, u]) W KK := by
        intro W l R u KK hh h hu hk
        exact h.app (v := vb) hu one2 (by unfold maxLen; omega) (by omega) fun v' W' o' h' _ => hk v' W' o' (by rw [e2] at h'; exact h')
      refine ⟨?_, ?_, trivial⟩
      · refine h.lit (vs := [Enc.enc p.1]) (fun u1 W o1 h => ?_) (by decide)
        refine ⟨⟨h.rc, h.rc⟩, ?_, ?_, trivial⟩
        · refine aA _ _ _ u1 _ h (h.osl (v := u1)) fun va' W o h => ⟨⟨h.rc, h.rc⟩, ?_⟩
          refine h.lit (vs := [Enc.enc p.2]) (fun u2 W o2 h => ?_) (by decide)
          exact ⟨⟨h.rc, h.rc⟩, aB _ _ _ u2 _ h (h.osl (v := u2)) fun vb' W o h => stores W va' vb' ‹_› o h.to⟩
        · refine h.lit (vs := [Enc.enc p.2]) (fun u2 W o2 h => ?_) (by decide)
          refine ⟨⟨h.rc, h.rc⟩, aA _ _ _ u1 _ h (h.osl (v := u1)) fun va' W o h => ⟨⟨h.rc, h.rc⟩, ?_⟩⟩
          exact aB _ _ _ u2 _ h (h.osl (v := u2)) fun vb' W o h => stores W va' vb' ‹_› o h.to
      · refine h.lit (vs := [Enc.enc p.2]) (fun u2 W o2 h => ?_) (by decide)
        refine ⟨⟨h.rc, h.rc⟩, ?_⟩
        refine h.lit (vs := [Enc.enc p.1]) (fun u1 W o1 h => ?_) (by decide)
        refine ⟨⟨h.rc, h.rc⟩, aA _ _ _ u1 _ h (h.osl (v := u1)) fun va' W o h => ⟨⟨h.rc, h.rc⟩, ?_⟩⟩
        exact aB _ _ _ u2 _ h (h.osl (v := u2)) fun vb' W o h => stores W va' vb' ‹_› o h.to
  · intro DD W h
    obtain ⟨hin, h⟩ := St.open1 h.swap
    obtain ⟨⟨va, vb⟩, h⟩ := St.openE h
    replace h := (St.open5 h).2
    have oa : Cel1 va := .of_own (h.ow (v := va))
    have ob : Cel1 vb := .of_own (h.ow (v := vb))
    have e : m.take n.toNat = m := List.take_of_length_le (by rw [List.length_map] at hin; omega)
    rw [e] at k
    simp only [List.length_map, List.take_length] at h
    refine ⟨fun W' => Rec W' ba 46 [va] ∧ Rec W' bb 22 [vb], ⟨h.drew.rc, h.drew.rc⟩, ?_⟩
    replace h := h.drew
    refine s_ld (t := 46) (cs := [va]) (fun w hw => hw.1) rfl ?_
    refine s_ld (t := 22) (cs := [vb]) (fun w hw => hw.2) rfl ?_
    refine ⟨h.ob (b := DD), ?_⟩
    replace h := h.putO (b := DD) (o := .deferred (some [])) (.deferred none)
    exact k va vb _ oa ob h.to
  · intro DD c i W hi h
    obtain ⟨⟨hcc, hin⟩, h2⟩ := St.open1 h.swap
    subst hcc
    clear h
    obtain ⟨⟨va, vb⟩, h⟩ := St.openE h2
    replace h := (St.open5 h).2
    have oa : Cel1 va := .of_own (h.ow (v := va))
    have ob : Cel1 vb := .of_own (h.ow (v := vb))
    rw [List.length_map] at hi
    have e : n.toNat = i := by omega
    rw [e, List.length_take, Nat.min_eq_left hi] at k
    refine ⟨fun W' => Rec W' ba 46 [va] ∧ Rec W' bb 22 [vb], ⟨h.drew.rc, h.drew.rc⟩, ?_⟩
    replace h := h.drew
    refine s_ld (t := 46) (cs := [va]) (fun w hw => hw.1) rfl ?_
    refine s_ld (t := 22) (cs := [vb]) (fun w hw => hw.2) rfl ?_
    refine ⟨h.ob (b := DD), ?_⟩
    replace h := h.putO (b := DD) (o := .deferred (some [])) (.deferred none)
    exact k va vb _ oa ob h.to
end
end Go.Proofs.Ytdjgchofnkancaa
