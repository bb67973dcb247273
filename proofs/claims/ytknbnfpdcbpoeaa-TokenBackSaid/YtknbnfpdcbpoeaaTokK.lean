/-
  TOKENS: the reader: what each method answers.
-/
import Derived.Test.YtknbnfpdcbpoeaaTokJ
namespace Go.Proofs.Ytknbnfpdcbpoeaa
open Go Go.Ez Go.RowKit Go.Lib
set_option linter.unusedSimpArgs false
set_option linter.unusedVariables false

/-- a reader: bytes that are owned, a place, is it bad? -/
structure Rdr (W : World) (B r : Nat) (vb : Value) (l : List UInt8) (a : Nat) (bad : Bool) : Prop where
  rc : Rec W r 73 [vb, nV .i64 a, .bool bad]
  own : W.ownsRow B 5 1 vb l.length (bytesV l)
  le : a ≤ l.length

theorem Rdr.drew {W : World} {B r a : Nat} {vb : Value} {l : List UInt8} {bad : Bool} (h : Rdr W B r vb l a bad) : Rdr W.drew B r vb l a bad := ⟨h.rc, h.own.drew, h.le⟩
theorem Rdr.rset {W W' : World} {B r a a' : Nat} {vb : Value} {l : List UInt8} {bad bad' : Bool} (h : Rdr W B r vb l a bad) (hm : Mod [r] W W') (hr : Rec W' r 73 [vb, nV .i64 a', .bool bad']) (ha : a' ≤ l.length) : Rdr W' B r vb l a' bad' :=
  ⟨hr, hm.own h.own (fun k hk => by rw [List.mem_singleton] at hk; subst hk; exact own_not h.own h.rc (by simp)), ha⟩

/-- (*token.reader).number -/
theorem rdNumber_spec {B r a : Nat} {vb : Value} {l : List UInt8} {bad : Bool} {w : World} {R : Value → World → Prop} (hr : Rdr w B r vb l a bad) (hl : l.length ≤ 100000000000)
    (h0 : bad = true → R (.int .i64 0) w)
    (h : bad = false → ∀ w', Rdr w' B r vb l (rvR l a).2.1 (decide ((rvR l a).2.2 ≠ 0)) → Mod [r] w w' → R (nV .i64 (rvR l a).1) w') : CallF Try.prog 43 #[.pointer (some ⟨r, 0, none⟩)] w R := by
  refine sh43_calls ?_
  unfold sh43
  refine a_nil ?_
  refine a_field Try.underlying73 rfl Try.sizeOf4 (by decide) (w_recF (j := 0 + 2) Try.isAgg4 hr.rc rfl ?_)
  refine ifb (fun hb => h0 hb) fun hb => ?_
  subst hb
  replace h := h rfl
  refine ⟨fun W => Rec W r 73 [vb, nV .i64 a, .bool false], hr.rc, ?_⟩
  refine a_nil ?_
  refine a_field Try.underlying73 rfl Try.sizeOf22 (by decide) (s_recF (j := 0 + 0) Try.isAgg22 (fun W hW => hW) rfl ?_)
  refine a_nil ?_
  refine a_field Try.underlying73 rfl Try.sizeOf3 (by decide) (s_recF (j := 0 + 1) Try.isAgg3 (fun W hW => hW) rfl ?_)
  have hrd := hr.drew
  have md : Mod [r] w w.drew := (Mod.drew w).mono (by simp)
  generalize w.drew = wd at *
  refine readVar_spec (Sl.of_own hrd.own) (by omega) ?_
  refine a_ext0 (a_ext1 (a_ext2 ?_))
  refine w_neq ?_
  refine a_nil ?_
  refine a_field Try.underlying73 rfl Try.sizeOf3 (by decide) ?_
  refine u_recF (j := 0 + 1) Try.isAgg3 Try.sizeOf3 rfl hrd.rc rfl fun w1 r1 m1 => ?_
  refine a_nil ?_
  refine a_field Try.underlying73 rfl Try.sizeOf4 (by decide) ?_
  refine u_recF (j := 0 + 2) Try.isAgg4 Try.sizeOf4 rfl r1 rfl fun w2 r2 m2 => ?_
  have hb := rvR_bound hr.le
  have hd : decide (((rvR l a).2.2 : Int) ≠ 0) = decide ((rvR l a).2.2 ≠ 0) := decide_eq_decide.2 (by omega)
  refine h w2 (hrd.rset (m1.trans m2) ?_ hb.2.2) (md.trans (m1.trans m2))
  rw [← hd]
  exact r2

/-- what number answers: the number, the place, is it bad? -/
def rdN (l : List UInt8) (a : Nat) (bad : Bool) : Nat := if bad then 0 else (rvR l a).1
def rdA (l : List UInt8) (a : Nat) (bad : Bool) : Nat := if bad then a else (rvR l a).2.1
def rdB (l : List UInt8) (a : Nat) (bad : Bool) : Bool := bad || decide ((rvR l a).2.2 ≠ 0)
theorem rdN_lt {l : List UInt8} {a : Nat} {bad : Bool} (ha : a ≤ l.length) : rdN l a bad < 72057594037927936 := by
  unfold rdN
  split
  · omega
  · exact (rvR_bound ha).2.1
theorem rdNumber_all {B r a : Nat} {vb : Value} {l : List UInt8} {bad : Bool} {w : World} {R : Value → World → Prop} (hr : Rdr w B r vb l a bad) (hl : l.length ≤ 100000000000)
    (h : ∀ w', Rdr w' B r vb l (rdA l a bad) (rdB l a bad) → Mod [r] w w' → R (nV .i64 (rdN l a bad)) w') : CallF Try.prog 43 #[.pointer (some ⟨r, 0, none⟩)] w R := by
  refine rdNumber_spec hr hl (fun hb => ?_) fun hb w' h1 h2 => ?_
  · subst hb
    exact h w hr (Mod.refl _ _)
  · subst hb
    have := h w' (by simpa [rdA, rdB] using h1) h2
    simpa [rdN] using this

/-- (*token.reader).text -/
theorem rdText_spec {B r a : Nat} {vb : Value} {l : List UInt8} {bad : Bool} {w : World} {R : Value → World → Prop} (hr : Rdr w B r vb l a bad) (hl : l.length ≤ 100000000000)
    (h0 : ¬ (rdB l a bad = false ∧ rdA l a bad + rdN l a bad ≤ l.length) → ∀ a' w', Rdr w' B r vb l a' true → Mod [r] w w' → R (strV []) w')
    (h : rdB l a bad = false → rdA l a bad + rdN l a bad ≤ l.length → ∀ w', Rdr w' B r vb l (rdA l a bad + rdN l a bad) false → Mod [r] w w' → R (strV ((l.drop (rdA l a bad)).take (rdN l a bad))) w') : CallF Try.prog 44 #[.pointer (some ⟨r, 0, none⟩)] w R := by
  refine sh44_calls ?_
  unfold sh44
  have hn := rdN_lt (bad := bad) hr.le
  refine rdNumber_all hr hl fun w1 r1 m1 => ?_
  generalize rdN l a bad = n at *
  generalize rdA l a bad = a' at *
  generalize rdB l a bad = bd at *
  have hle := r1.le
  have r1d := r1.drew
  have m1d : Mod [r] w w1.drew := m1.trans ((Mod.drew w1).mono (by simp))
  refine ⟨fun W => Rec W r 73 [vb, nV .i64 a', .bool bd], r1.rc, ?_⟩
  generalize w1.drew = wd at *
  have fail : ∀ (hno : ¬ (bd = false ∧ a' + n ≤ l.length)), RunA Try.prog (nilV (.pointer (some ⟨r, 0, none⟩))) fun p => RunA Try.prog (Instr.fieldAt 73 p 2) fun p => RunU Try.prog (Instr.storeAt 4 p (.bool true)) wd fun w => R (.string ⟨#[]⟩) w := fun hno => by
    refine a_nil ?_
    refine a_field Try.underlying73 rfl Try.sizeOf4 (by decide) ?_
    refine u_recF (j := 0 + 2) Try.isAgg4 Try.sizeOf4 rfl r1d.rc rfl fun w2 r2 m2 => ?_
    exact h0 hno a' w2 (r1d.rset m2 r2 hle) (m1d.trans m2)
  refine a_nil ?_
  refine a_field Try.underlying73 rfl Try.sizeOf4 (by decide) (s_recF (j := 0 + 2) Try.isAgg4 (fun W hW => hW) rfl ?_)
  refine ifb (fun hb => fail (by rw [hb]; simp)) fun hb => ?_
  refine a_nil ?_
  refine a_field Try.underlying73 rfl Try.sizeOf22 (by decide) (s_recF (j := 0 + 0) Try.isAgg22 (fun W hW => hW) rfl ?_)
  refine s_lenS Try.underlying22 (Sl.of_own r1d.own) ?_
  refine a_nil ?_
  refine a_field Try.underlying73 rfl Try.sizeOf3 (by decide) (s_recF (j := 0 + 1) Try.isAgg3 (fun W hW => hW) rfl ?_)
  refine a_sub64 (by omega) (by omega) ?_
  refine a_gtr (ifd (fun hc => fail (by omega)) fun hc => ?_)
  subst hb
  refine a_nil ?_
  refine a_field Try.underlying73 rfl Try.sizeOf3 (by decide) (w_recF (j := 0 + 1) Try.isAgg3 r1d.rc rfl ?_)
  refine a_add64 (by omega) (by omega) ?_
  have e1 : ((a' : Int) + (n : Int)) = ((a' + n : Nat) : Int) := by push_cast; rfl
  rw [e1]
  refine a_nil ?_
  refine a_field Try.underlying73 rfl Try.sizeOf3 (by decide) ?_
  refine u_recF (j := 0 + 1) Try.isAgg3 Try.sizeOf3 rfl r1d.rc rfl fun w2 r2 m2 => ?_
  have R2 : Rdr w2 B r vb l (a' + n) false := r1d.rset m2 r2 (by omega)
  refine ⟨fun W => W = w2.drew, rfl, ?_⟩
  have S2 : ∀ W, W = w2.drew → Rec W r 73 [vb, nV .i64 (a' + n), .bool false] := by rintro _ rfl; exact R2.rc
  refine a_nil ?_
  refine a_field Try.underlying73 rfl Try.sizeOf22 (by decide) (s_recF (j := 0 + 0) Try.isAgg22 S2 rfl ?_)
  refine a_nil ?_
  refine a_field Try.underlying73 rfl Try.sizeOf3 (by decide) (s_recF (j := 0 + 1) Try.isAgg3 S2 rfl ?_)
  refine a_sub64 (by omega) (by omega) ?_
  have e2 : (((a' + n : Nat) : Int) - (n : Int)) = (a' : Int) := by omega
  rw [e2]
  refine a_nil ?_
  refine a_field Try.underlying73 rfl Try.sizeOf3 (by decide) (s_recF (j := 0 + 1) Try.isAgg3 S2 rfl ?_)
  have R2d := R2.drew
  refine a_part (lo := a') (hi := a' + n) elB (Sl.of_own R2d.own) (by omega) (by omega) fun p hp => ?_
  have e3 : a' + n - a' = n := by omega
  rw [e3] at hp
  have fin := h rfl (by omega) w2.drew R2d (m1d.trans (m2.trans ((Mod.drew w2).mono (by simp))))
  refine ⟨strV ((l.drop a').take n), ?_, fin⟩
  rintro W rfl
  obtain ⟨v, W', hv, hk, hW⟩ := v_str (P := Try.prog) (w := w2.drew) (KW := fun v W => v = strV ((l.drop a').take n) ∧ W = w2.drew) Try.underlying22 Try.underlying5 Try.underlying9 hp ⟨rfl, rfl⟩
  rw [hv, hk, hW]

end Go.Proofs.Ytknbnfpdcbpoeaa
