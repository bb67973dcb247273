/-
  MAPS IN ORDER ([string, int]): two iterators merged.
-/
import Derived.Test.YtdjgchofnkancaaOmX
import Derived.Test.YtdjgchofnkancaaOmIsi
import Derived.Test.YtdjgchofnkancaaShD
namespace Go.Proofs.Ytdjgchofnkancaa
open Go Go.Ez Go.RowKit
set_option linter.unusedSimpArgs false
set_option linter.unusedVariables false

/-- an iterator, or nil -/
def Srcsi (w0 : World) (G : Nat → Prop) (f : Value) (m : List (Txt × Int)) (A : Value → As) : Prop := (f = .nilFunc ∧ m = []) ∨ Itr Try.prog w0 G f (tellsi m) A
theorem Srcsi.one {w0 : World} {G : Nat → Prop} {f : Value} {m : List (Txt × Int)} {A : Value → As} (h : Srcsi w0 G f m A) : Cel1 f := by
  rcases h with ⟨rfl, _⟩ | ⟨gf, lb, rfl, _⟩ <;> exact ⟨rfl⟩

section
variable {w0 W : World} {G : Nat → Prop} {l R : List As} {m : List (Txt × Int)} {f : Value} {A : Value → As} {RR : Value → World → Prop}

/-- what taken has taken -/
def TnCsi (bl : Nat) (m : List (Txt × Int)) (i : Nat) : As := As.ex fun v : Value => As.all True [Ky bl (Ob (.cells [v].toArray 111 (0, 0))), Ky v (Ow 115 2 i (pcells (m.take i)))]

theorem takensi_spec [i : Has l f A R] (hI : Srcsi w0 G f m A) (h : St w0 G l W) (hl : m.length ≤ 1000000)
    (k : ∀ v W', Cel1 v → St w0 G (Ky v (Ow 115 2 m.length (pcells m)) :: Ky f A :: R) W' → RR v W') : CallF Try.prog 132 #[f] W RR := by
  refine sh132_calls ?_
  unfold sh132
  rcases hI with ⟨rfl, rfl⟩ | hI
  · refine x_nilFF (ift ?_)
    exact k _ W ⟨rfl⟩ ((h.find (k := (.nilFunc : Value)) (X := A)).nilOw)
  obtain ⟨gf, lb, rfl, _⟩ := id hI
  replace h := h.find (k := (.func (.func gf) #[] lb : Value)) (X := A)
  (repeat (first | (with_reducible refine ift ?_) | (with_reducible refine iff' ?_) | (with_reducible refine a_lss ?_) | (with_reducible refine a_leq ?_) | (with_reducible refine a_gtr ?_) | (with_reducible refine a_geq ?_) | (with_reducible refine w_eql ?_) | (with_reducible refine w_neq ?_) | (with_reducible refine s_eql ?_) | (with_reducible refine s_neq ?_) | ((with_reducible refine a_add64 ?h0 ?h1 ?_); (case h0 => omega); (case h1 => omega);  skip) | ((with_reducible refine a_sub64 ?h0 ?h1 ?_); (case h0 => omega); (case h1 => omega);  skip) | ((with_reducible refine a_mul64 ?h0 ?h1 ?_); (case h0 => omega); (case h1 => omega);  skip) | (with_reducible refine a_notd ?_) | (with_reducible refine a_not ?_) | (with_reducible refine a_ext0 ?_) | (with_reducible refine a_ext1 ?_) | (with_reducible refine a_ext2 ?_) | (with_reducible refine x_len ?_) | (with_reducible refine x_lens ?_) | (with_reducible refine x_eqb ?_) | (with_reducible refine x_neb ?_) | (with_reducible refine x_nilP ?_) | (with_reducible refine x_nilPn ?_) | (with_reducible refine x_nilF ?_) | (with_reducible refine x_nilFF ?_) | (with_reducible refine w_eqlL ?_) | (with_reducible refine w_neqL ?_) | (with_reducible refine s_eqlL ?_) | (with_reducible refine ifnt ?_) | (with_reducible refine ifnf ?_) | (with_reducible refine x_eqB ?_) | (with_reducible refine x_neB ?_) | (with_reducible refine x_lssL ?_) | (with_reducible refine x_gtrL ?_) | (with_reducible refine x_geqL ?_) | (with_reducible refine s_neqL ?_) | (with_reducible refine St.load h ?_) | (with_reducible refine St.loadS h ?_) | (with_reducible refine a_fld0 ?_) | (with_reducible refine St.store h fun W h => ?_) | (with_reducible refine St.storeS h fun W h => ?_) | (with_reducible refine St.alloc h fun b W h => ?_) | (with_reducible refine St.allocS h fun b W h => ?_) | (with_reducible refine a_nil ?_) | (with_reducible refine ss_load ?_) | (with_reducible refine ss_loadS ?_) | (with_reducible refine ss_eqb ?_)))
  have hlen : ∀ x ∈ tellsi m, x.length = 2 := by
    intro x hx
    obtain ⟨p, _, rfl⟩ := List.mem_map.1 hx
    rfl
  have hnil : St w0 G (Ky (.slice none 0 0) (Ow 115 2 0 (pcells (m.take 0))) :: _) W := h.nilOw
  refine rngI (C := fun i => TnCsi b m i) (fun c i => As.all False []) hI hlen (l := R) ?_ ?_ ?_ ?_
  · exact St.shutE (.slice none 0 0) (St.shut2 trivial hnil.to)
  · intro i x hxi ll rec I' W kn kst h hn hk
    obtain ⟨p, hp, rfl⟩ : ∃ p, m[i]? = some p ∧ x = [Enc.enc p.1, Enc.enc p.2] := by
      rw [List.getElem?_map] at hxi
      cases hp : m[i]? with
      | none => rw [hp] at hxi; cases hxi
      | some p => rw [hp] at hxi; cases hxi; exact ⟨p, rfl, rfl⟩
    have hil := (List.getElem?_eq_some_iff.1 hp).1
    refine app2 ?_
    refine ⟨h.ob (b := ll), ?_⟩
    replace h := h.putO (b := ll) (o := .loop (rec .ready none)) (.loop (rec .busy none))
    obtain ⟨v, h⟩ := St.openE h.swap
    replace h := (St.open2 h).2
    have ov : Cel1 v := .of_own (h.ow (v := v))
    refine app3 ?_
    (repeat (first | (with_reducible refine ift ?_) | (with_reducible refine iff' ?_) | (with_reducible refine a_lss ?_) | (with_reducible refine a_leq ?_) | (with_reducible refine a_gtr ?_) | (with_reducible refine a_geq ?_) | (with_reducible refine w_eql ?_) | (with_reducible refine w_neq ?_) | (with_reducible refine s_eql ?_) | (with_reducible refine s_neq ?_) | ((with_reducible refine a_add64 ?h0 ?h1 ?_); (case h0 => omega); (case h1 => omega);  skip) | ((with_reducible refine a_sub64 ?h0 ?h1 ?_); (case h0 => omega); (case h1 => omega);  skip) | ((with_reducible refine a_mul64 ?h0 ?h1 ?_); (case h0 => omega); (case h1 => omega);  skip) | (with_reducible refine a_notd ?_) | (with_reducible refine a_not ?_) | (with_reducible refine a_ext0 ?_) | (with_reducible refine a_ext1 ?_) | (with_reducible refine a_ext2 ?_) | (with_reducible refine x_len ?_) | (with_reducible refine x_lens ?_) | (with_reducible refine x_eqb ?_) | (with_reducible refine x_neb ?_) | (with_reducible refine x_nilP ?_) | (with_reducible refine x_nilPn ?_) | (with_reducible refine x_nilF ?_) | (with_reducible refine x_nilFF ?_) | (with_reducible refine w_eqlL ?_) | (with_reducible refine w_neqL ?_) | (with_reducible refine s_eqlL ?_) | (with_reducible refine ifnt ?_) | (with_reducible refine ifnf ?_) | (with_reducible refine x_eqB ?_) | (with_reducible refine x_neB ?_) | (with_reducible refine x_lssL ?_) | (with_reducible refine x_gtrL ?_) | (with_reducible refine x_geqL ?_) | (with_reducible refine s_neqL ?_) | (with_reducible refine St.load h ?_) | (with_reducible refine St.loadS h ?_) | (with_reducible refine a_fld0 ?_) | (with_reducible refine St.store h fun W h => ?_) | (with_reducible refine St.storeS h fun W h => ?_) | (with_reducible refine St.alloc h fun b W h => ?_) | (with_reducible refine St.allocS h fun b W h => ?_) | (with_reducible refine a_nil ?_) | (with_reducible refine ss_load ?_) | (with_reducible refine ss_loadS ?_) | (with_reducible refine ss_eqb ?_)))
    refine x_bld (cells := #[Enc.enc p.1, Enc.enc p.2]) rfl ?_
    refine h.lit (vs := [.agg [Enc.enc p.1, Enc.enc p.2].toArray]) (fun u W o2 h => ?_) (by decide)
    refine St.app (v := v) h (h.osl (v := u)) (by simp [Enc.one]) (by unfold maxLen; omega) (by omega) fun v' W o' h _ => ?_
    have e : pcells (m.take i) ++ [Enc.enc p.1, Enc.enc p.2] = pcells (m.take (i + 1)) := by
      rw [List.take_add_one, hp, pcells_append]; rfl
    rw [e] at h
    (repeat (first | (with_reducible refine ift ?_) | (with_reducible refine iff' ?_) | (with_reducible refine a_lss ?_) | (with_reducible refine a_leq ?_) | (with_reducible refine a_gtr ?_) | (with_reducible refine a_geq ?_) | (with_reducible refine w_eql ?_) | (with_reducible refine w_neq ?_) | (with_reducible refine s_eql ?_) | (with_reducible refine s_neq ?_) | ((with_reducible refine a_add64 ?h0 ?h1 ?_); (case h0 => omega); (case h1 => omega);  skip) | ((with_reducible refine a_sub64 ?h0 ?h1 ?_); (case h0 => omega); (case h1 => omega);  skip) | ((with_reducible refine a_mul64 ?h0 ?h1 ?_); (case h0 => omega); (case h1 => omega);  skip) | (with_reducible refine a_notd ?_) | (with_reducible refine a_not ?_) | (with_reducible refine a_ext0 ?_) | (with_reducible refine a_ext1 ?_) | (with_reducible refine a_ext2 ?_) | (with_reducible refine x_len ?_) | (with_reducible refine x_lens ?_) | (with_reducible refine x_eqb ?_) | (with_reducible refine x_neb ?_) | (with_reducible refine x_nilP ?_) | (with_reducible refine x_nilPn ?_) | (with_reducible refine x_nilF ?_) | (with_reducible refine x_nilFF ?_) | (with_reducible refine w_eqlL ?_) | (with_reducible refine w_neqL ?_) | (with_reducible refine s_eqlL ?_) | (with_reducible refine ifnt ?_) | (with_reducible refine ifnf ?_) | (with_reducible refine x_eqB ?_) | (with_reducible refine x_neB ?_) | (with_reducible refine x_lssL ?_) | (with_reducible refine x_gtrL ?_) | (with_reducible refine x_geqL ?_) | (with_reducible refine s_neqL ?_) | (with_reducible refine St.load h ?_) | (with_reducible refine St.loadS h ?_) | (with_reducible refine a_fld0 ?_) | (with_reducible refine St.store h fun W h => ?_) | (with_reducible refine St.storeS h fun W h => ?_) | (with_reducible refine St.alloc h fun b W h => ?_) | (with_reducible refine St.allocS h fun b W h => ?_) | (with_reducible refine a_nil ?_) | (with_reducible refine ss_load ?_) | (with_reducible refine ss_loadS ?_) | (with_reducible refine ss_eqb ?_)))
    exact hn W (St.swap (St.shutE v' (St.shut2 trivial h.to)))
  · intro DD W h
    obtain ⟨v, h⟩ := St.openE h.swap
    replace h := (St.open2 h).2
    rw [List.length_map, List.take_length] at h
    (repeat (first | (with_reducible refine ift ?_) | (with_reducible refine iff' ?_) | (with_reducible refine a_lss ?_) | (with_reducible refine a_leq ?_) | (with_reducible refine a_gtr ?_) | (with_reducible refine a_geq ?_) | (with_reducible refine w_eql ?_) | (with_reducible refine w_neq ?_) | (with_reducible refine s_eql ?_) | (with_reducible refine s_neq ?_) | ((with_reducible refine a_add64 ?h0 ?h1 ?_); (case h0 => omega); (case h1 => omega);  skip) | ((with_reducible refine a_sub64 ?h0 ?h1 ?_); (case h0 => omega); (case h1 => omega);  skip) | ((with_reducible refine a_mul64 ?h0 ?h1 ?_); (case h0 => omega); (case h1 => omega);  skip) | (with_reducible refine a_notd ?_) | (with_reducible refine a_not ?_) | (with_reducible refine a_ext0 ?_) | (with_reducible refine a_ext1 ?_) | (with_reducible refine a_ext2 ?_) | (with_reducible refine x_len ?_) | (with_reducible refine x_lens ?_) | (with_reducible refine x_eqb ?_) | (with_reducible refine x_neb ?_) | (with_reducible refine x_nilP ?_) | (with_reducible refine x_nilPn ?_) | (with_reducible refine x_nilF ?_) | (with_reducible refine x_nilFF ?_) | (with_reducible refine w_eqlL ?_) | (with_reducible refine w_neqL ?_) | (with_reducible refine s_eqlL ?_) | (with_reducible refine ifnt ?_) | (with_reducible refine ifnf ?_) | (with_reducible refine x_eqB ?_) | (with_reducible refine x_neB ?_) | (with_reducible refine x_lssL ?_) | (with_reducible refine x_gtrL ?_) | (with_reducible refine x_geqL ?_) | (with_reducible refine s_neqL ?_) | (with_reducible refine St.load h ?_) | (with_reducible refine St.loadS h ?_) | (with_reducible refine a_fld0 ?_) | (with_reducible refine St.store h fun W h => ?_) | (with_reducible refine St.storeS h fun W h => ?_) | (with_reducible refine St.alloc h fun b W h => ?_) | (with_reducible refine St.allocS h fun b W h => ?_) | (with_reducible refine a_nil ?_) | (with_reducible refine ss_load ?_) | (with_reducible refine ss_loadS ?_) | (with_reducible refine ss_eqb ?_)))
    refine ⟨h.ob (b := DD), ?_⟩
    have ov : Cel1 v := .of_own (h.ow (v := v))
    replace h := h.putO (b := DD) (o := .deferred (some [])) (.deferred none)
    exact k v _ ov h.to
  · intro DD c i W hi h
    exact (St.openA h.swap).1.elim

/-- what Merge stands on -/
def ItMsi (b1 b2 : Nat) (f1 f2 : Value) (A1 A2 : Value → As) (_ : Value) : As := As.all True [Ky b1 (Ob (.cells [f1].toArray 32 (0, 0))), Ky b2 (Ob (.cells [f2].toArray 32 (0, 0))), Ky f1 A1, Ky f2 A2]

theorem merge1si_itr {b1 b2 : Nat} {f1 f2 : Value} {A1 A2 : Value → As} {m1 m2 : List (Txt × Int)} (h1 : Srcsi w0 G f1 m1 A1) (h2 : Srcsi w0 G f2 m2 A2) (hl1 : m1.length ≤ 1000) (hl2 : m2.length ≤ 1000) :
    Itr Try.prog w0 G (.func (.func 131) #[] #[.pointer (some ⟨b1, 0, none⟩), .pointer (some ⟨b2, 0, none⟩)]) (tellsi (mrg m1 m2)) (ItMsi b1 b2 f1 f2 A1 A2) := by
  refine ⟨131, _, rfl, hentD _ (by kernel_rfl), fun yv C D I W RR oy hY h hd hs => ?_⟩
  show CallF Try.prog 131 #[yv, .pointer (some ⟨b1, 0, none⟩), .pointer (some ⟨b2, 0, none⟩)] W RR
  refine sh131_calls ?_
  unfold sh131
  have h := (St.open4 h.swap).2
  refine ⟨fun W' => Rec W' b1 32 [f1] ∧ Rec W' b2 32 [f2], ⟨h.drew.rc, h.drew.rc⟩, ?_⟩
  replace h := h.drew
  refine s_ld (t := 32) (cs := [f1]) (fun w hw => hw.1) rfl ?_
  refine s_ld (t := 32) (cs := [f2]) (fun w hw => hw.2) rfl ?_
  refine takensi_spec (f := f1) h1 h (by omega) fun va W oa h => ⟨⟨h.rc, h.rc⟩, ?_⟩
  refine takensi_spec (f := f2) h2 h (by omega) fun vb W ob h => ?_
  have back : ∀ (q : Nat) (E : Nat → As) (W : World), St w0 G (Ky b1 (Ob (.cells [f1].toArray 32 (0, 0))) :: Ky b2 (Ob (.cells [f2].toArray 32 (0, 0))) :: Ky f1 A1 :: Ky f2 A2 :: Ky q E :: I) W →
      St w0 G (Ky q E :: Ky (.func (.func 131) #[] #[.pointer (some ⟨b1, 0, none⟩), .pointer (some ⟨b2, 0, none⟩)] : Value) (ItMsi b1 b2 f1 f2 A1 A2) :: I) W := fun q E W h => (St.shut4 (φ := True) trivial h).swap
  refine lpx (α := Nat × Nat × Nat) (fun x => [cutF va 2 x.1, cutF vb 2 x.2.1]) (fun x W => x.1 ≤ m1.length ∧ x.2.1 ≤ m2.length ∧ (∃ told, mrg m1 m2 = told ++ mrg (m1.drop x.1) (m2.drop x.2.1) ∧ told.length = x.2.2) ∧ St w0 G (Ky x.2.2 C :: Ky va (Ow 115 2 m1.length (pcells m1)) :: Ky vb (Ow 115 2 m2.length (pcells m2)) :: Ky f1 A1 :: Ky f2 A2 :: Ky b1 (Ob (.cells [f1].toArray 32 (0, 0))) :: Ky b2 (Ob (.cells [f2].toArray 32 (0, 0))) :: I) W)
    (fun x => m1.length + m2.length - (x.1 + x.2.1)) (0, 0, 0) (fun _ => rfl) rfl ⟨Nat.zero_le _, Nat.zero_le _, ⟨[], by simp, rfl⟩, h.to⟩ ?_
  clear h
  rintro next ⟨i, j, k⟩ W hnext ⟨hi, hj, ⟨told, htold, hk⟩, h⟩
  simp only at hi hj hk h htold hnext ⊢
  refine app2 ?_
  refine x_lenS ((h.osl (v := va)).cutF hi) ?_
  refine x_lenS ((h.osl (v := vb)).cutF hj) ?_
  refine a_add64 (by omega) (by omega) ?_
  refine a_gtr (ifd (fun hc => ?_) fun hc => ?_)
  · refine h.allocS fun pb W h => ?_
    refine jni (fun vs W => ∃ i' j' p, vs = [yv, cutF va 2 i', cutF vb 2 j', .pointer (some ⟨pb, 0, none⟩)] ∧ i' ≤ m1.length ∧ j' ≤ m2.length ∧ i + j < i' + j' ∧ mrg (m1.drop i) (m2.drop j) = p :: mrg (m1.drop i') (m2.drop j') ∧ St w0 G (Ky pb (Ob (.cells [Enc.enc p.1, Enc.enc p.2].toArray 115 (0, 0))) :: Ky k C :: Ky va (Ow 115 2 m1.length (pcells m1)) :: Ky vb (Ow 115 2 m2.length (pcells m2)) :: Ky f1 A1 :: Ky f2 A2 :: Ky b1 (Ob (.cells [f1].toArray 32 (0, 0))) :: Ky b2 (Ob (.cells [f2].toArray 32 (0, 0))) :: I) W) ?_ ?_
    · rintro vs W _ ⟨i', j', p, rfl, hi', hj', hlt, hm, h⟩
      refine app4 ?_
      (repeat (first | (with_reducible refine ift ?_) | (with_reducible refine iff' ?_) | (with_reducible refine a_lss ?_) | (with_reducible refine a_leq ?_) | (with_reducible refine a_gtr ?_) | (with_reducible refine a_geq ?_) | (with_reducible refine w_eql ?_) | (with_reducible refine w_neq ?_) | (with_reducible refine s_eql ?_) | (with_reducible refine s_neq ?_) | ((with_reducible refine a_add64 ?h0 ?h1 ?_); (case h0 => omega); (case h1 => omega);  skip) | ((with_reducible refine a_sub64 ?h0 ?h1 ?_); (case h0 => omega); (case h1 => omega);  skip) | ((with_reducible refine a_mul64 ?h0 ?h1 ?_); (case h0 => omega); (case h1 => omega);  skip) | (with_reducible refine a_notd ?_) | (with_reducible refine a_not ?_) | (with_reducible refine a_ext0 ?_) | (with_reducible refine a_ext1 ?_) | (with_reducible refine a_ext2 ?_) | (with_reducible refine x_len ?_) | (with_reducible refine x_lens ?_) | (with_reducible refine x_eqb ?_) | (with_reducible refine x_neb ?_) | (with_reducible refine x_nilP ?_) | (with_reducible refine x_nilPn ?_) | (with_reducible refine x_nilF ?_) | (with_reducible refine x_nilFF ?_) | (with_reducible refine w_eqlL ?_) | (with_reducible refine w_neqL ?_) | (with_reducible refine s_eqlL ?_) | (with_reducible refine ifnt ?_) | (with_reducible refine ifnf ?_) | (with_reducible refine x_eqB ?_) | (with_reducible refine x_neB ?_) | (with_reducible refine x_lssL ?_) | (with_reducible refine x_gtrL ?_) | (with_reducible refine x_geqL ?_) | (with_reducible refine s_neqL ?_) | (with_reducible refine St.load h ?_) | (with_reducible refine St.loadS h ?_) | (with_reducible refine a_fld0 ?_) | (with_reducible refine St.store h fun W h => ?_) | (with_reducible refine St.storeS h fun W h => ?_) | (with_reducible refine St.alloc h fun b W h => ?_) | (with_reducible refine St.allocS h fun b W h => ?_) | (with_reducible refine a_nil ?_) | (with_reducible refine ss_load ?_) | (with_reducible refine ss_loadS ?_) | (with_reducible refine ss_eqb ?_)))
      have hx : (tellsi (mrg m1 m2))[k]? = some [Enc.enc p.1, Enc.enc p.2] := by
        rw [List.getElem?_map, htold, hm, List.getElem?_append_right (by omega), hk, Nat.sub_self]; rfl
      have hkl : k + 1 ≤ (tellsi (mrg m1 m2)).length := (List.getElem?_eq_some_iff.1 hx).1
      refine hY k _ hx (Ky pb (Ob (.cells [Enc.enc p.1, Enc.enc p.2].toArray 115 (0, 0))) :: Ky va (Ow 115 2 m1.length (pcells m1)) :: Ky vb (Ow 115 2 m2.length (pcells m2)) :: Ky f1 A1 :: Ky f2 A2 :: Ky b1 (Ob (.cells [f1].toArray 32 (0, 0))) :: Ky b2 (Ob (.cells [f2].toArray 32 (0, 0))) :: I) W _ h.to (fun W h => ?_) fun W h => ?_
      · refine a_not (iff' ⟨rfl, ?_⟩)
        exact hnext (i', j', k + 1) W (by dsimp only at *; omega) ⟨hi', hj', ⟨told ++ [p], by rw [htold, hm, List.append_assoc]; rfl, by rw [List.length_append, hk]; rfl⟩, h.to⟩
      · exact a_not (ift (hs (k + 1) W hkl (back _ _ W h.to)))
    have sa : ∀ (W : World) {l' R' : List As} [Has l' va (Ow 115 2 m1.length (pcells m1)) R'], St w0 G l' W → Sl W 2 (cutF va 2 i) (m1.length - i) (pcells (m1.drop i)) := fun W l' R' _ h => by
      have := (h.osl (v := va)).cutF hi
      rwa [← pcells_drop] at this
    have sb : ∀ (W : World) {l' R' : List As} [Has l' vb (Ow 115 2 m2.length (pcells m2)) R'], St w0 G l' W → Sl W 2 (cutF vb 2 j) (m2.length - j) (pcells (m2.drop j)) := fun W l' R' _ h => by
      have := (h.osl (v := vb)).cutF hj
      rwa [← pcells_drop] at this
    refine ⟨fun W' => W' = _, rfl, ?_⟩
    replace h := h.drew
    refine x_lenSs (sb _ h) ?_
    refine s_eql (ifd (fun hc1 => ?_) fun hc1 => ?_)
    · have hil : i < m1.length := by omega
      obtain ⟨px, hpx⟩ : ∃ p, m1[i]? = some p := ⟨_, List.getElem?_eq_getElem hil⟩
      have hx0 : (m1.drop i)[0]? = some px := by rw [List.getElem?_drop]; exact hpx
      have ed : m1.drop i = px :: m1.drop (i + 1) := by rw [List.drop_eq_getElem_cons hil, (List.getElem?_eq_some_iff.1 hpx).2]
      have ey : m2.drop j = [] := List.drop_of_length_le (by omega)
      refine ⟨fun W' => W' = _, rfl, ?_⟩
      replace h := h.drew
      refine pcells_ssl (i := 0) (sa _ h) (fun _ e => by subst e; exact sa _ h) (by omega) hx0 ?_
      refine x_cutF (h.osl (v := va)) (by omega) ?_
      refine h.storeS (cs' := [Enc.enc px.1, Enc.enc px.2]) fun W h => ?_
      exact ⟨i + 1, j, px, rfl, by omega, by omega, by omega, by rw [ed, mrg_x (.inl ey)], h.to⟩
    · have hjl : j < m2.length := by omega
      obtain ⟨py, hpy⟩ : ∃ p, m2[j]? = some p := ⟨_, List.getElem?_eq_getElem hjl⟩
      have hy0 : (m2.drop j)[0]? = some py := by rw [List.getElem?_drop]; exact hpy
      have ey : m2.drop j = py :: m2.drop (j + 1) := by rw [List.drop_eq_getElem_cons hjl, (List.getElem?_eq_some_iff.1 hpy).2]
      refine x_lenSs (sa _ h) ?_
      refine a_gtr (ifd (fun hc2 => ?_) fun hc2 => ?_)
      · have hil : i < m1.length := by omega
        obtain ⟨px, hpx⟩ : ∃ p, m1[i]? = some p := ⟨_, List.getElem?_eq_getElem hil⟩
        have hx0 : (m1.drop i)[0]? = some px := by rw [List.getElem?_drop]; exact hpx
        have ed : m1.drop i = px :: m1.drop (i + 1) := by rw [List.drop_eq_getElem_cons hil, (List.getElem?_eq_some_iff.1 hpx).2]
        refine x_sfld (i := 0) (sa _ h) (fun _ e => by subst e; exact sa _ h) (by omega) (by decide) (pcells_get hx0).1 ?_
        refine x_sfld (i := 0) (sb _ h) (fun _ e => by subst e; exact sb _ h) (by omega) (by decide) (pcells_get hy0).1 ?_
        have lss : ∀ (p q : Prop), (OKey.lt px.1 py.1 = true → p) → (OKey.lt px.1 py.1 = false → q) → ∀ X Y, RunA Try.prog (bin .lss 9 X Y (Enc.enc px.1) (Enc.enc py.1)) fun x => IfB x p q := by
          intro p q hp hq X Y
          first
          | exact x_lssL (ifb hp hq)
          | exact a_lss (ifb hp hq)
        refine lss _ _ (fun hlt => ?_) (fun hge => ?_) _ _
        · skip
          refine ⟨fun W' => W' = _, rfl, ?_⟩
          replace h := h.drew
          refine pcells_ssl (i := 0) (sa _ h) (fun _ e => by subst e; exact sa _ h) (by omega) hx0 ?_
          refine x_cutF (h.osl (v := va)) (by omega) ?_
          refine h.storeS (cs' := [Enc.enc px.1, Enc.enc px.2]) fun W h => ?_
          exact ⟨i + 1, j, px, rfl, by omega, by omega, by omega, by rw [ed, mrg_x (.inr ⟨py, _, ey, hlt⟩)], h.to⟩
        · refine jni (fun vs W => ∃ i' j' p, vs = [yv, cutF va 2 i', cutF vb 2 j', .pointer (some ⟨pb, 0, none⟩)] ∧ i' ≤ m1.length ∧ j' ≤ m2.length ∧ i + j < i' + j' ∧ mrg (m1.drop i) (m2.drop j) = p :: mrg (m1.drop i') (m2.drop j') ∧ St w0 G (Ky pb (Ob (.cells [Enc.enc p.1, Enc.enc p.2].toArray 115 (0, 0))) :: Ky k C :: Ky va (Ow 115 2 m1.length (pcells m1)) :: Ky vb (Ow 115 2 m2.length (pcells m2)) :: Ky f1 A1 :: Ky f2 A2 :: Ky b1 (Ob (.cells [f1].toArray 32 (0, 0))) :: Ky b2 (Ob (.cells [f2].toArray 32 (0, 0))) :: I) W) (fun vs W _ ⟨i', j', p, e, h⟩ => by subst e; exact app4 ⟨i', j', p, rfl, h⟩) ?_
          refine ⟨fun W' => W' = _, rfl, ?_⟩
          replace h := h.drew
          refine x_lenSs (sa _ h) ?_
          refine a_gtr (ifd_pos (by omega) ?_)
          refine x_sfld (i := 0) (sa _ h) (fun _ e => by subst e; exact sa _ h) (by omega) (by decide) (pcells_get hx0).1 ?_
          refine x_sfld (i := 0) (sb _ h) (fun _ e => by subst e; exact sb _ h) (by omega) (by decide) (pcells_get hy0).1 ?_
          have eql : ∀ (p q : Prop), (px.1 = py.1 → p) → (px.1 ≠ py.1 → q) → ∀ S X Y, RunS Try.prog S (bin .eql 9 X Y (Enc.enc px.1) (Enc.enc py.1)) fun x => IfB x p q := by
            intro p q hp hq S X Y
            first
            | exact s_eqlL (ifd hp hq)
            | exact s_eql (ifd hp hq)
          refine eql _ _ (fun heq => ?_) (fun hne => ?_) _ _ _
          · skip
            refine ⟨fun W' => W' = _, rfl, ?_⟩
            replace h := h.drew
            refine pcells_ssl (i := 0) (sb _ h) (fun _ e => by subst e; exact sb _ h) (by omega) hy0 ?_
            refine x_cutF (h.osl (v := va)) (by omega) ?_
            refine x_cutF (h.osl (v := vb)) (by omega) ?_
            refine h.storeS (cs' := [Enc.enc py.1, Enc.enc py.2]) fun W h => ?_
            exact ⟨i + 1, j + 1, py, rfl, by omega, by omega, by omega, by rw [ed, ey, mrg_b heq], h.to⟩
          · skip
            refine ⟨fun W' => W' = _, rfl, ?_⟩
            replace h := h.drew
            refine pcells_ssl (i := 0) (sb _ h) (fun _ e => by subst e; exact sb _ h) (by omega) hy0 ?_
            refine x_cutF (h.osl (v := vb)) (by omega) ?_
            refine h.storeS (cs' := [Enc.enc py.1, Enc.enc py.2]) fun W h => ?_
            exact ⟨i, j + 1, py, rfl, by omega, by omega, by omega, by rw [ey, mrg_y (.inr ⟨px, _, ed, hge, hne⟩)], h.to⟩
      · have ex : m1.drop i = [] := List.drop_of_length_le (by omega)
        refine jni (fun vs W => ∃ i' j' p, vs = [yv, cutF va 2 i', cutF vb 2 j', .pointer (some ⟨pb, 0, none⟩)] ∧ i' ≤ m1.length ∧ j' ≤ m2.length ∧ i + j < i' + j' ∧ mrg (m1.drop i) (m2.drop j) = p :: mrg (m1.drop i') (m2.drop j') ∧ St w0 G (Ky pb (Ob (.cells [Enc.enc p.1, Enc.enc p.2].toArray 115 (0, 0))) :: Ky k C :: Ky va (Ow 115 2 m1.length (pcells m1)) :: Ky vb (Ow 115 2 m2.length (pcells m2)) :: Ky f1 A1 :: Ky f2 A2 :: Ky b1 (Ob (.cells [f1].toArray 32 (0, 0))) :: Ky b2 (Ob (.cells [f2].toArray 32 (0, 0))) :: I) W) (fun vs W _ ⟨i', j', p, e, h⟩ => by subst e; exact app4 ⟨i', j', p, rfl, h⟩) ?_
        refine ⟨fun W' => W' = _, rfl, ?_⟩
        replace h := h.drew
        refine x_lenSs (sa _ h) ?_
        refine a_gtr (ifd_neg (by omega) ?_)
        refine ⟨fun W' => W' = _, rfl, ?_⟩
        replace h := h.drew
        refine pcells_ssl (i := 0) (sb _ h) (fun _ e => by subst e; exact sb _ h) (by omega) hy0 ?_
        refine x_cutF (h.osl (v := vb)) (by omega) ?_
        refine h.storeS (cs' := [Enc.enc py.1, Enc.enc py.2]) fun W h => ?_
        exact ⟨i, j + 1, py, rfl, by omega, by omega, by omega, by rw [ey, mrg_y (.inl ex)], h.to⟩
  · have ex : m1.drop i = [] := List.drop_of_length_le (by omega)
    have ey : m2.drop j = [] := List.drop_of_length_le (by omega)
    have hkl : (tellsi (mrg m1 m2)).length = k := by
      rw [List.length_map, htold, ex, ey]; simp [mrg, hk]
    exact hd W (by rw [hkl]; exact back _ _ W h.to)
theorem mergesi_spec {R1 : List As} {f1 f2 : Value} {A1 A2 : Value → As} {m1 m2 : List (Txt × Int)} [i : Has l f1 A1 R1] [j : Has R1 f2 A2 R] (h1 : Srcsi w0 G f1 m1 A1) (h2 : Srcsi w0 G f2 m2 A2) (h : St w0 G l W) (hl1 : m1.length ≤ 1000) (hl2 : m2.length ≤ 1000)
    (k : ∀ f b1 b2 W', Itr Try.prog w0 G f (tellsi (mrg m1 m2)) (ItMsi b1 b2 f1 f2 A1 A2) → St w0 G (Ky f (ItMsi b1 b2 f1 f2 A1 A2) :: R) W' → RR f W') :
    CallF Try.prog 112 #[f1, f2] W RR := by
  refine sh112_calls ?_
  unfold sh112
  have o1 := h1.one
  have o2 := h2.one
  replace h : St w0 G (Ky f1 A1 :: Ky f2 A2 :: R) W := by
    obtain ⟨F, hF, hG⟩ := h.own
    exact { h with own := ⟨F, sepL_mono j.to (i.to F W hF), hG⟩ }
  refine h.boxV fun b1 W h => ?_
  refine h.boxV fun b2 W h => ?_
  refine v_func ?_
  exact k _ b1 b2 W (merge1si_itr h1 h2 hl1 hl2) (St.shut4 (φ := True) trivial h.to)
end
end Go.Proofs.Ytdjgchofnkancaa
