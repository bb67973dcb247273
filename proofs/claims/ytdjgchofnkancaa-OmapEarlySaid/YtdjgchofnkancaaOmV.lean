/-
  ROWS: the document's map told: all, or a part.
-/
import Derived.Test.YtdjgchofnkancaaOmR
namespace Go.Proofs.Ytdjgchofnkancaa
open Go Go.Ez Go.RowKit
set_option linter.unusedSimpArgs false
set_option linter.unusedVariables false

/-- what is told -/
def told (lo hi : Int) (all : Bool) (m : List (Int × Txt)) : List (Int × Txt) := m.filter fun p => all || (!OKey.lt p.1 lo && OKey.lt p.1 hi)
theorem told_all (lo hi : Int) (m : List (Int × Txt)) : told lo hi true m = m := by simp [told]
theorem told_part (lo hi : Int) (m : List (Int × Txt)) : told lo hi false m = partM lo hi m := by simp [told, partM]

section
variable {w0 W : World} {G : Nat → Prop} {l R : List As} {m : List (Int × Txt)} {v : Value} {RR : Value → World → Prop}

theorem from_spec [i : Has l v (Mx m) R] (h : St w0 G l W) {lo hi : Int} {all : Bool} (hl : m.length ≤ 1000000)
    (k : ∀ va vb W', Cel1 va → Cel1 vb → St w0 G (Ky va (Ow 3 1 (told lo hi all m).length (((told lo hi all m).map Prod.fst).map Enc.enc)) :: Ky vb (Ow 9 1 (told lo hi all m).length (((told lo hi all m).map Prod.snd).map Enc.enc)) :: Ky v (Mx m) :: R) W' → RR (.tuple #[va, vb]) W') :
    CallF Try.prog 34 #[v, .int .i64 lo, .int .i64 hi, .bool all] W RR := by
  refine sh34_calls ?_
  unfold sh34
  obtain ⟨b, rfl, _⟩ := h.ptrM (v := v)
  replace h := h.find (k := (.pointer (some ⟨b, 0, none⟩) : Value)) (X := Mx m)
  refine lpx (α := Nat × Value × Value) (fun x => [x.2.1, x.2.2, nV .i64 x.1]) (fun x W => x.1 ≤ m.length ∧ St w0 G (Ky x.2.1 (Ow 3 1 (told lo hi all (m.take x.1)).length (((told lo hi all (m.take x.1)).map Prod.fst).map Enc.enc)) :: Ky x.2.2 (Ow 9 1 (told lo hi all (m.take x.1)).length (((told lo hi all (m.take x.1)).map Prod.snd).map Enc.enc)) :: Ky (.pointer (some ⟨b, 0, none⟩) : Value) (Mx m) :: R) W)
    (fun x => m.length - x.1) (0, .slice none 0 0, .slice none 0 0) (fun _ => rfl) rfl ⟨Nat.zero_le _, (h.nilOw (e := 9) (sz := 1)).nilOw (e := 3) (sz := 1)⟩ ?_
  rintro next ⟨i, va, vb⟩ W hnext ⟨hi', h⟩
  simp only at hi' h
  obtain ⟨b', sl, e1, hs, o, h⟩ := h.openM (v := .pointer (some ⟨b, 0, none⟩))
  cases e1
  have oa : Cel1 va := .of_own (h.ow (v := va))
  have ob : Cel1 vb := .of_own (h.ow (v := vb))
  refine app3 ?_
  (repeat (first | (with_reducible refine ift ?_) | (with_reducible refine iff' ?_) | (with_reducible refine a_lss ?_) | (with_reducible refine a_leq ?_) | (with_reducible refine a_gtr ?_) | (with_reducible refine a_geq ?_) | (with_reducible refine w_eql ?_) | (with_reducible refine w_neq ?_) | (with_reducible refine s_eql ?_) | (with_reducible refine s_neq ?_) | ((with_reducible refine a_add64 ?h0 ?h1 ?_); (case h0 => omega); (case h1 => omega);  skip) | ((with_reducible refine a_sub64 ?h0 ?h1 ?_); (case h0 => omega); (case h1 => omega);  skip) | ((with_reducible refine a_mul64 ?h0 ?h1 ?_); (case h0 => omega); (case h1 => omega);  skip) | (with_reducible refine a_notd ?_) | (with_reducible refine a_not ?_) | (with_reducible refine a_ext0 ?_) | (with_reducible refine a_ext1 ?_) | (with_reducible refine a_ext2 ?_) | (with_reducible refine x_len ?_) | (with_reducible refine x_lens ?_) | (with_reducible refine x_eqb ?_) | (with_reducible refine x_neb ?_) | (with_reducible refine x_nilP ?_) | (with_reducible refine x_nilPn ?_) | (with_reducible refine x_nilF ?_) | (with_reducible refine x_nilFF ?_) | (with_reducible refine w_eqlL ?_) | (with_reducible refine w_neqL ?_) | (with_reducible refine s_eqlL ?_) | (with_reducible refine ifnt ?_) | (with_reducible refine ifnf ?_) | (with_reducible refine x_eqB ?_) | (with_reducible refine x_neB ?_) | (with_reducible refine x_lssL ?_) | (with_reducible refine x_gtrL ?_) | (with_reducible refine x_geqL ?_) | (with_reducible refine s_neqL ?_) | (with_reducible refine St.load h ?_) | (with_reducible refine St.loadS h ?_) | (with_reducible refine a_fld0 ?_) | (with_reducible refine St.store h fun W h => ?_) | (with_reducible refine St.storeS h fun W h => ?_) | (with_reducible refine St.alloc h fun b W h => ?_) | (with_reducible refine St.allocS h fun b W h => ?_) | (with_reducible refine a_nil ?_) | (with_reducible refine ss_load ?_) | (with_reducible refine ss_loadS ?_) | (with_reducible refine ss_eqb ?_)))
  refine x_lenS (h.osl (v := sl)) ?_
  refine a_lss (ifd (fun hc => ?_) fun hc => ?_)
  · have hil : i < m.length := by omega
    obtain ⟨p, hp⟩ : ∃ p, m[i]? = some p := ⟨_, List.getElem?_eq_getElem hil⟩
    have hti : (told lo hi all (m.take i)).length ≤ i := by
      have := List.length_filter_le (fun p : Int × Txt => all || (!OKey.lt p.1 lo && OKey.lt p.1 hi)) (m.take i)
      rw [List.length_take] at this
      unfold told; omega
    have hsn : told lo hi all (m.take (i + 1)) = told lo hi all (m.take i) ++ (if all || (!OKey.lt p.1 lo && OKey.lt p.1 hi) then [p] else []) := by
      unfold told
      rw [List.take_add_one, hp, List.filter_append]
      congr 1
      cases hx : (all || (!OKey.lt p.1 lo && OKey.lt p.1 hi)) <;> simp [hx]
    have one1 : ∀ c ∈ ([Enc.enc p.1] : List Value), c.oneCell' = true := by simp [Enc.one]
    have one2 : ∀ c ∈ ([Enc.enc p.2] : List Value), c.oneCell' = true := by simp [Enc.one]
    have aA : ∀ (W : World) (l R : List As) (u : Value) (KK : Value → World → Prop) [Has l va (Ow 3 1 (told lo hi all (m.take i)).length (((told lo hi all (m.take i)).map Prod.fst).map Enc.enc)) R], St w0 G l W → Sl W 1 u 1 [Enc.enc p.1] → (all || (!OKey.lt p.1 lo && OKey.lt p.1 hi)) = true →
        (∀ v' W', Cel1 v' → St w0 G (Ky v' (Ow 3 1 (told lo hi all (m.take (i + 1))).length (((told lo hi all (m.take (i + 1))).map Prod.fst).map Enc.enc)) :: R) W' → KK v' W') →
        RunV Try.prog (Builtin.append_ #[46, 46] 46 #[va, u]) W KK := by
      intro W l R u KK hh h hu hq hk
      refine h.app (v := va) hu one1 (by unfold maxLen; omega) (by omega) fun v' W' o' h' _ => hk v' W' o' ?_
      rw [hsn, if_pos hq, List.length_append, List.map_append, List.map_append]
      exact h'
    have aB : ∀ (W : World) (l R : List As) (u : Value) (KK : Value → World → Prop) [Has l vb (Ow 9 1 (told lo hi all (m.take i)).length (((told lo hi all (m.take i)).map Prod.snd).map Enc.enc)) R], St w0 G l W → Sl W 1 u 1 [Enc.enc p.2] → (all || (!OKey.lt p.1 lo && OKey.lt p.1 hi)) = true →
        (∀ v' W', Cel1 v' → St w0 G (Ky v' (Ow 9 1 (told lo hi all (m.take (i + 1))).length (((told lo hi all (m.take (i + 1))).map Prod.snd).map Enc.enc)) :: R) W' → KK v' W') →
        RunV Try.prog (Builtin.append_ #[22, 22] 22 #[vb, u]) W KK := by
      intro W l R u KK hh h hu hq hk
      refine h.app (v := vb) hu one2 (by unfold maxLen; omega) (by omega) fun v' W' o' h' _ => hk v' W' o' ?_
      rw [hsn, if_pos hq, List.length_append, List.map_append, List.map_append]
      exact h'
    have no : (all || (!OKey.lt p.1 lo && OKey.lt p.1 hi)) = false → told lo hi all (m.take (i + 1)) = told lo hi all (m.take i) := fun hq => by rw [hsn, hq]; simp
    refine jni (fun vs W => ∃ va' vb', vs = [.pointer (some ⟨b, 0, none⟩), .int .i64 lo, .int .i64 hi, .bool all, va', vb', nV .i64 i] ∧ St w0 G (Ky va' (Ow 3 1 (told lo hi all (m.take (i + 1))).length (((told lo hi all (m.take (i + 1))).map Prod.fst).map Enc.enc)) :: Ky vb' (Ow 9 1 (told lo hi all (m.take (i + 1))).length (((told lo hi all (m.take (i + 1))).map Prod.snd).map Enc.enc)) :: Ky (.pointer (some ⟨b, 0, none⟩) : Value) (Mx m) :: R) W) ?_ ?_
    · rintro vs W _ ⟨va', vb', rfl, h⟩
      refine app7 ?_
      refine a_add64 (by omega) (by omega) ⟨rfl, rfl, rfl, rfl, ?_⟩
      rw [show ((i : Int) + 1) = ((i + 1 : Nat) : Int) by push_cast; rfl]
      exact hnext (i + 1, va', vb') W (by simp only; omega) ⟨by simp only; omega, h⟩
    refine ifb (fun hall => ?_) fun hall => ?_
    · have hq : (all || (!OKey.lt p.1 lo && OKey.lt p.1 hi)) = true := by rw [hall]; rfl
      refine jni (fun vs W => ∃ va' vb', vs = [.pointer (some ⟨b, 0, none⟩), .int .i64 lo, .int .i64 hi, .bool all, va', vb', nV .i64 i] ∧ St w0 G (Ky va' (Ow 3 1 (told lo hi all (m.take (i + 1))).length (((told lo hi all (m.take (i + 1))).map Prod.fst).map Enc.enc)) :: Ky vb' (Ow 9 1 (told lo hi all (m.take (i + 1))).length (((told lo hi all (m.take (i + 1))).map Prod.snd).map Enc.enc)) :: Ky (.pointer (some ⟨b, 0, none⟩) : Value) (Mx m) :: R) W) ?_ ?_
      · rintro vs W _ ⟨va', vb', rfl, h⟩
        exact app7 ⟨va', vb', rfl, h⟩
      refine ⟨fun W' => Rec W' b 60 [sl] ∧ Sl W' 2 sl m.length (pcells m), ⟨h.drew.rc, h.drew.osl (v := sl)⟩, ?_⟩
      replace h := h.drew
      refine a_nil (a_fld0 ?_)
      refine s_ld (t := 60) (cs := [sl]) (fun w hw => hw.1) rfl ?_
      refine x_sfld (h.osl (v := sl)) (fun w hw => hw.2) hil (by decide) (pcells_get hp).1 ?_
      refine a_nil (a_fld0 ?_)
      refine s_ld (t := 60) (cs := [sl]) (fun w hw => hw.1) rfl ?_
      refine x_sfld (h.osl (v := sl)) (fun w hw => hw.2) hil (by decide) (pcells_get hp).2 ?_
      refine ⟨?_, ?_, trivial⟩
      · refine h.lit (vs := [Enc.enc p.1]) (fun u1 W o1 h => ?_) (by decide)
        refine ⟨⟨h.rc, h.osl (v := sl)⟩, ?_, ?_, trivial⟩
        · refine aA _ _ _ u1 _ h (h.osl (v := u1)) hq fun va' W oa h => ⟨⟨h.rc, h.osl (v := sl)⟩, ?_⟩
          refine h.lit (vs := [Enc.enc p.2]) (fun u2 W o2 h => ?_) (by decide)
          exact aB _ _ _ u2 _ h (h.osl (v := u2)) hq fun vb' W ob h => ⟨va', vb', rfl, St.to (h.shutM (b := b) (sl := sl) hs rfl rfl)⟩
        · refine h.lit (vs := [Enc.enc p.2]) (fun u2 W o2 h => ?_) (by decide)
          refine aA _ _ _ u1 _ h (h.osl (v := u1)) hq fun va' W oa h => ?_
          exact aB _ _ _ u2 _ h (h.osl (v := u2)) hq fun vb' W ob h => ⟨va', vb', rfl, St.to (h.shutM (b := b) (sl := sl) hs rfl rfl)⟩
      · refine h.lit (vs := [Enc.enc p.2]) (fun u2 W o2 h => ?_) (by decide)
        refine ⟨⟨h.rc, h.osl (v := sl)⟩, ?_⟩
        refine h.lit (vs := [Enc.enc p.1]) (fun u1 W o1 h => ?_) (by decide)
        refine aA _ _ _ u1 _ h (h.osl (v := u1)) hq fun va' W oa h => ?_
        exact aB _ _ _ u2 _ h (h.osl (v := u2)) hq fun vb' W ob h => ⟨va', vb', rfl, St.to (h.shutM (b := b) (sl := sl) hs rfl rfl)⟩
    · (repeat (first | (with_reducible refine ift ?_) | (with_reducible refine iff' ?_) | (with_reducible refine a_lss ?_) | (with_reducible refine a_leq ?_) | (with_reducible refine a_gtr ?_) | (with_reducible refine a_geq ?_) | (with_reducible refine w_eql ?_) | (with_reducible refine w_neq ?_) | (with_reducible refine s_eql ?_) | (with_reducible refine s_neq ?_) | ((with_reducible refine a_add64 ?h0 ?h1 ?_); (case h0 => omega); (case h1 => omega);  skip) | ((with_reducible refine a_sub64 ?h0 ?h1 ?_); (case h0 => omega); (case h1 => omega);  skip) | ((with_reducible refine a_mul64 ?h0 ?h1 ?_); (case h0 => omega); (case h1 => omega);  skip) | (with_reducible refine a_notd ?_) | (with_reducible refine a_not ?_) | (with_reducible refine a_ext0 ?_) | (with_reducible refine a_ext1 ?_) | (with_reducible refine a_ext2 ?_) | (with_reducible refine x_len ?_) | (with_reducible refine x_lens ?_) | (with_reducible refine x_eqb ?_) | (with_reducible refine x_neb ?_) | (with_reducible refine x_nilP ?_) | (with_reducible refine x_nilPn ?_) | (with_reducible refine x_nilF ?_) | (with_reducible refine x_nilFF ?_) | (with_reducible refine w_eqlL ?_) | (with_reducible refine w_neqL ?_) | (with_reducible refine s_eqlL ?_) | (with_reducible refine ifnt ?_) | (with_reducible refine ifnf ?_) | (with_reducible refine x_eqB ?_) | (with_reducible refine x_neB ?_) | (with_reducible refine x_lssL ?_) | (with_reducible refine x_gtrL ?_) | (with_reducible refine x_geqL ?_) | (with_reducible refine s_neqL ?_) | (with_reducible refine St.load h ?_) | (with_reducible refine St.loadS h ?_) | (with_reducible refine a_fld0 ?_) | (with_reducible refine St.store h fun W h => ?_) | (with_reducible refine St.storeS h fun W h => ?_) | (with_reducible refine St.alloc h fun b W h => ?_) | (with_reducible refine St.allocS h fun b W h => ?_) | (with_reducible refine a_nil ?_) | (with_reducible refine ss_load ?_) | (with_reducible refine ss_loadS ?_) | (with_reducible refine ss_eqb ?_)))
      refine x_fld (h.osl (v := sl)) hil (by decide) (pcells_get hp).1 ?_
      refine (show RunA _ (bin .geq _ _ _ (.int .i64 p.1) _) _ from ?_)
      refine a_geq (ifd (fun hc1 => ?_) fun hc1 => ?_)
      · (repeat (first | (with_reducible refine ift ?_) | (with_reducible refine iff' ?_) | (with_reducible refine a_lss ?_) | (with_reducible refine a_leq ?_) | (with_reducible refine a_gtr ?_) | (with_reducible refine a_geq ?_) | (with_reducible refine w_eql ?_) | (with_reducible refine w_neq ?_) | (with_reducible refine s_eql ?_) | (with_reducible refine s_neq ?_) | ((with_reducible refine a_add64 ?h0 ?h1 ?_); (case h0 => omega); (case h1 => omega);  skip) | ((with_reducible refine a_sub64 ?h0 ?h1 ?_); (case h0 => omega); (case h1 => omega);  skip) | ((with_reducible refine a_mul64 ?h0 ?h1 ?_); (case h0 => omega); (case h1 => omega);  skip) | (with_reducible refine a_notd ?_) | (with_reducible refine a_not ?_) | (with_reducible refine a_ext0 ?_) | (with_reducible refine a_ext1 ?_) | (with_reducible refine a_ext2 ?_) | (with_reducible refine x_len ?_) | (with_reducible refine x_lens ?_) | (with_reducible refine x_eqb ?_) | (with_reducible refine x_neb ?_) | (with_reducible refine x_nilP ?_) | (with_reducible refine x_nilPn ?_) | (with_reducible refine x_nilF ?_) | (with_reducible refine x_nilFF ?_) | (with_reducible refine w_eqlL ?_) | (with_reducible refine w_neqL ?_) | (with_reducible refine s_eqlL ?_) | (with_reducible refine ifnt ?_) | (with_reducible refine ifnf ?_) | (with_reducible refine x_eqB ?_) | (with_reducible refine x_neB ?_) | (with_reducible refine x_lssL ?_) | (with_reducible refine x_gtrL ?_) | (with_reducible refine x_geqL ?_) | (with_reducible refine s_neqL ?_) | (with_reducible refine St.load h ?_) | (with_reducible refine St.loadS h ?_) | (with_reducible refine a_fld0 ?_) | (with_reducible refine St.store h fun W h => ?_) | (with_reducible refine St.storeS h fun W h => ?_) | (with_reducible refine St.alloc h fun b W h => ?_) | (with_reducible refine St.allocS h fun b W h => ?_) | (with_reducible refine a_nil ?_) | (with_reducible refine ss_load ?_) | (with_reducible refine ss_loadS ?_) | (with_reducible refine ss_eqb ?_)))
        refine x_fld (h.osl (v := sl)) hil (by decide) (pcells_get hp).1 ?_
        refine (show RunA _ (bin .lss _ _ _ (.int .i64 p.1) _) _ from ?_)
        refine a_lss (ifd (fun hc2 => ?_) fun hc2 => ?_)
        · have hq : (all || (!OKey.lt p.1 lo && OKey.lt p.1 hi)) = true := by
            have e1 : OKey.lt p.1 lo = false := decide_eq_false (by omega)
            have e2 : OKey.lt p.1 hi = true := decide_eq_true hc2
            rw [e1, e2, hall]; rfl
          refine jni (fun vs W => ∃ va' vb', vs = [.pointer (some ⟨b, 0, none⟩), .int .i64 lo, .int .i64 hi, .bool all, va', vb', nV .i64 i] ∧ St w0 G (Ky va' (Ow 3 1 (told lo hi all (m.take (i + 1))).length (((told lo hi all (m.take (i + 1))).map Prod.fst).map Enc.enc)) :: Ky vb' (Ow 9 1 (told lo hi all (m.take (i + 1))).length (((told lo hi all (m.take (i + 1))).map Prod.snd).map Enc.enc)) :: Ky (.pointer (some ⟨b, 0, none⟩) : Value) (Mx m) :: R) W) ?_ ?_
          · rintro vs W _ ⟨va', vb', rfl, h⟩
            exact app7 ⟨va', vb', rfl, h⟩
          refine ⟨fun W' => Rec W' b 60 [sl] ∧ Sl W' 2 sl m.length (pcells m), ⟨h.drew.rc, h.drew.osl (v := sl)⟩, ?_⟩
          replace h := h.drew
          refine a_nil (a_fld0 ?_)
          refine s_ld (t := 60) (cs := [sl]) (fun w hw => hw.1) rfl ?_
          refine x_sfld (h.osl (v := sl)) (fun w hw => hw.2) hil (by decide) (pcells_get hp).1 ?_
          refine a_nil (a_fld0 ?_)
          refine s_ld (t := 60) (cs := [sl]) (fun w hw => hw.1) rfl ?_
          refine x_sfld (h.osl (v := sl)) (fun w hw => hw.2) hil (by decide) (pcells_get hp).2 ?_
          refine ⟨?_, ?_, trivial⟩
          · refine h.lit (vs := [Enc.enc p.1]) (fun u1 W o1 h => ?_) (by decide)
            refine ⟨⟨h.rc, h.osl (v := sl)⟩, ?_, ?_, trivial⟩
            · refine aA _ _ _ u1 _ h (h.osl (v := u1)) hq fun va' W oa h => ⟨⟨h.rc, h.osl (v := sl)⟩, ?_⟩
              refine h.lit (vs := [Enc.enc p.2]) (fun u2 W o2 h => ?_) (by decide)
              exact aB _ _ _ u2 _ h (h.osl (v := u2)) hq fun vb' W ob h => ⟨va', vb', rfl, St.to (h.shutM (b := b) (sl := sl) hs rfl rfl)⟩
            · refine h.lit (vs := [Enc.enc p.2]) (fun u2 W o2 h => ?_) (by decide)
              refine aA _ _ _ u1 _ h (h.osl (v := u1)) hq fun va' W oa h => ?_
              exact aB _ _ _ u2 _ h (h.osl (v := u2)) hq fun vb' W ob h => ⟨va', vb', rfl, St.to (h.shutM (b := b) (sl := sl) hs rfl rfl)⟩
          · refine h.lit (vs := [Enc.enc p.2]) (fun u2 W o2 h => ?_) (by decide)
            refine ⟨⟨h.rc, h.osl (v := sl)⟩, ?_⟩
            refine h.lit (vs := [Enc.enc p.1]) (fun u1 W o1 h => ?_) (by decide)
            refine aA _ _ _ u1 _ h (h.osl (v := u1)) hq fun va' W oa h => ?_
            exact aB _ _ _ u2 _ h (h.osl (v := u2)) hq fun vb' W ob h => ⟨va', vb', rfl, St.to (h.shutM (b := b) (sl := sl) hs rfl rfl)⟩
        · have hq : (all || (!OKey.lt p.1 lo && OKey.lt p.1 hi)) = false := by
            have e2 : OKey.lt p.1 hi = false := decide_eq_false hc2
            rw [e2, hall, Bool.and_false]; rfl
          rw [no hq]
          exact ⟨va, vb, rfl, St.to (h.shutM (b := b) (sl := sl) hs rfl rfl)⟩
      · have hq : (all || (!OKey.lt p.1 lo && OKey.lt p.1 hi)) = false := by
          have e2 : OKey.lt p.1 lo = true := decide_eq_true (by omega)
          rw [e2, hall]; rfl
        rw [no hq]
        exact ⟨va, vb, rfl, St.to (h.shutM (b := b) (sl := sl) hs rfl rfl)⟩
  · have hil : i = m.length := by omega
    subst hil
    rw [List.take_length] at h
    exact k va vb W oa ob (St.to (h.shutM (b := b) (sl := sl) hs rfl rfl))
end
end Go.Proofs.Ytdjgchofnkancaa
