/-
  KeysBack: the walk.
-/
import Derived.Test.YtgflkjhljggeiaaDoorKyD
import Derived.Test.YtgflkjhljggeiaaDoorKyQ
namespace Go.Proofs.YtgflkjhljggeiaaDoor
open Go Go.Ez Go.RowKit Go.Lib
set_option linter.unusedSimpArgs false
set_option linter.unusedVariables false
theorem neq_pt {p q : Pts} {X Y : Operand} (w : World) : (bin .neq 23 X Y (ptV p) (ptV q)).run Tryd.prog w = .ok (.bool (!decide (p = q))) w := by
  have h := eql_pt (p := p) (q := q) (X := X) (Y := Y) w
  have hg : Tryd.prog.eqGuardType Tryd.prog.depth 23 = false := by kernel_rfl
  have h1 : (do eqGuard .eql 23 X Y (ptV p) (ptV q); binOp .eql 23 (ptV p) (ptV q) : Sem Value).run Tryd.prog w = _ := h
  show (do eqGuard .neq 23 X Y (ptV p) (ptV q); binOp .neq 23 (ptV p) (ptV q) : Sem Value).run Tryd.prog w = _
  unfold ptV at h1 ⊢
  simp only [Sem.run_bind, run_eqGuard_agg w .eql 23 X Y _ _ hg, run_eqGuard_agg w .neq 23 X Y _ _ hg, Result.andThen, run_eql_struct, run_neq_struct] at h1 ⊢
  generalize Op.equalIn 10000 23 _ _ = Z at *
  cases hx : Z.run Tryd.prog w with
  | ok b w' => rw [hx] at h1; cases h1; rfl
  | halt c w' => rw [hx] at h1; cases h1
theorem parS_ok (s : Txt) : (parS s).1.user.length ≤ s.length ∧ (parS s).1.feed.length ≤ s.length ∧ (parS s).1.name.length ≤ s.length ∧ (parS s).1.num ≤ 9223372036854775807 := by
  have h := splA_ok (A := fun i => (splF s ++ [[], [], [], []]).getD i []) (N := s.length) (fun i => splA_len i)
  unfold parS
  split
  · exact ⟨Nat.zero_le _, Nat.zero_le _, Nat.zero_le _, by decide⟩
  · exact h
section
variable {w0 W W' : World} {l R : List As} {RR : Value → World → Prop} {t s : Txt} {c : UInt8} {b : Nat} {v : Value}
theorem s_neqL {S : World → Prop} {K : Value → Prop} {t : TypeId} {X Y : Operand} {a b : List UInt8} (h : K (.bool (decide (a ≠ b)))) : RunS Tryd.prog S (bin .neq t X Y (.string ⟨a.toArray⟩) (.string ⟨b.toArray⟩)) K := by
  refine .of (fun w _ => ?_) h
  obtain ⟨v, h1, h2⟩ := w_neqL (P := Tryd.prog) (w := w) (t := t) (X := X) (Y := Y) (a := a) (b := b) (K := fun v => v = .bool (decide (a ≠ b))) rfl
  rw [h1, h2]
theorem subs_spec (h : St w0 G0 l W) (hs : s.length ≤ 9223372036854775807) (k : ∀ W', St w0 G0 l W' → RR (strV (bgn (jnS [115] [s]))) W') : CallF Tryd.prog 16 #[strV s] W RR := by
  refine sh16_calls ?_
  unfold sh16
  refine joined1_spec (X := 0) (m := [115]) h hs (by decide) fun W h => ?_
  exact begun_spec (Nat.le_trans (jnS_len (by decide) (.inl rfl)) (by decide)) (k W h)
theorem folders_spec (h : St w0 G0 l W) (hs : s.length ≤ 9223372036854775807) (k : ∀ W', St w0 G0 l W' → RR (strV (bgn (jnS [100] [s]))) W') : CallF Tryd.prog 18 #[strV s] W RR := by
  refine sh18_calls ?_
  unfold sh18
  refine joined1_spec (X := 0) (m := [100]) h hs (by decide) fun W h => ?_
  exact begun_spec (Nat.le_trans (jnS_len (by decide) (.inl rfl)) (by decide)) (k W h)
theorem states_spec (h : St w0 G0 l W) (hs : s.length ≤ 9223372036854775807) (ht : t.length ≤ 9223372036854775807) (k : ∀ W', St w0 G0 l W' → RR (strV (bgn (jnS [114] [s, t]))) W') : CallF Tryd.prog 19 #[strV s, strV t] W RR := by
  refine sh19_calls ?_
  unfold sh19
  refine joined2_spec (m := [114]) h hs ht (by decide) fun W h => ?_
  exact begun_spec (Nat.le_trans (jnS_len (by decide) (.inr rfl)) (by decide)) (k W h)
/-- hbllaw14.KeysBack -/
theorem kback_spec {p : Pts} {n : Int} (hT : KTabs w0) (h : St w0 G0 l W) (p1 : p.user.length ≤ 9223372036854775807) (p2 : p.feed.length ≤ 9223372036854775807) (p3 : p.name.length ≤ 9223372036854775807) (p4 : p.num ≤ 9223372036854775807) (hn : n ≤ 9223372036854775807)
    (k : ∀ W', St w0 G0 l W' → RR (.bool true) W') : CallF Tryd.prog 5 #[ptV p, strV s, .int .i64 n] W RR := by
  refine sh5_calls ?_
  unfold sh5
  refine h.boxS (cs := [.int .i64 p.kind, strV p.user, strV p.feed, strV p.name, strV p.guid, .int .i64 p.num]) fun b W h => ?_
  refine first14_spec hT h fun W h => ?_
  refine a_not (iff' ?_)
  refine a_fld0 (h.load (x_len (a_gtr (ifd (fun _ => first14_spec hT h fun W h => k W h.to) fun _ => ?_))))
  refine a_fld0 (h.load (x_len (a_gtr (ifd (fun _ => first14_spec hT h fun W h => k W h.to) fun _ => ?_))))
  refine a_fld0 (h.load (x_len (a_gtr (ifd (fun _ => first14_spec hT h fun W h => k W h.to) fun _ => ?_))))
  refine a_fld0 (h.load (x_len (a_gtr (ifd (fun _ => first14_spec hT h fun W h => k W h.to) fun _ => ?_))))
  refine x_len (a_gtr (ifd (fun _ => first14_spec hT h fun W h => k W h.to) fun hs => ?_))
  refine h.loadS ?_
  refine key_spec (p := p) hT.pow h p1 p2 p3 p4 fun W h => ?_
  have ka := keyS_len p
  refine parse_spec hT h (by omega) fun W h => a_ext0 (a_ext1 ?_)
  refine h.allocS fun b3 W h => ?_
  refine h.storeS (b := b3) (cs' := [.int .i64 (parS (keyS p)).1.kind, strV (parS (keyS p)).1.user, strV (parS (keyS p)).1.feed, strV (parS (keyS p)).1.name, strV (parS (keyS p)).1.guid, .int .i64 (parS (keyS p)).1.num]) fun W h => ?_
  refine jni (fun vs W' => vs = [strV s, .int .i64 n, .pointer (some ⟨b, 0, none⟩)] ∧ St w0 G0 (Ky b (PtO p) :: l) W') ?_ ?_
  rotate_left
  · refine w_neqL (b := []) (x_neb ?_)
    by_cases hk : keyS p = []
    · have e2 : (parS (keyS p)).2 = false := by rw [hk, par_nil]
      rw [e2, decide_eq_false (fun hh => hh hk)]
      exact iff' (iff' ⟨rfl, h.to⟩)
    · obtain ⟨e2, e3⟩ := par_yes hk
      rw [e2, decide_eq_true hk]
      refine iff' (ift ?_)
      refine h.loadS ?_
      obtain ⟨x1, x2, x3, x4⟩ := parS_ok (keyS p)
      refine key_spec (p := (parS (keyS p)).1) hT.pow h (by omega) (by omega) (by omega) x4 fun W h => ?_
      refine w_neqL (ifd_neg (fun hh => hh (par_ok e2)) ?_)
      refine a_fld0 (h.load (a_fld0 (h.load (w_neq (ifd_neg (fun hh => hh e3) ?_)))))
      exact ⟨rfl, h.to⟩
  clear h
  rintro vs W1 _ ⟨rfl, h⟩
  refine app3 ?_
  refine parse_spec hT h (by omega) fun W h => a_ext0 (a_ext1 ?_)
  refine h.allocS fun b4 W h => ?_
  refine h.storeS (b := b4) (cs' := [.int .i64 (parS s).1.kind, strV (parS s).1.user, strV (parS s).1.feed, strV (parS s).1.name, strV (parS s).1.guid, .int .i64 (parS s).1.num]) fun W h => ?_
  refine jni (fun vs W' => vs = [.int .i64 n, .pointer (some ⟨b, 0, none⟩)] ∧ St w0 G0 (Ky b (PtO p) :: l) W') ?_ ?_
  rotate_left
  · refine ifb (fun y => ?_) fun y => ?_
    · refine h.loadS ?_
      obtain ⟨x1, x2, x3, x4⟩ := parS_ok s
      refine key_spec (p := (parS s).1) hT.pow h (by omega) (by omega) (by omega) x4 fun W h => ?_
      refine w_neqL (ifd_neg (fun hh => hh (par_ok y)) ?_)
      rw [y]
      exact a_not (iff' ⟨rfl, h.to⟩)
    · rw [y]
      refine a_not (ift ?_)
      refine h.loadS ?_
      refine x_bld (cells := #[.int .i64 0, strV [], strV [], strV [], strV [], .int .i64 0]) rfl ?_
      refine RunW.of (neq_pt (p := (parS s).1) (q := Pts.zero) W) ?_
      rw [decide_eq_true (par_no y)]
      exact iff' ⟨rfl, h.to⟩
  clear h
  rintro vs W1 _ ⟨rfl, h⟩
  refine app2 ?_
  refine ⟨St w0 G0 _, h.drew, ?_⟩
  replace h := h.drew
  refine a_fld0 (ss_load (a_fld0 (ss_load (a_fld0 (ss_load ?_)))))
  refine ent_spec hT.pow h p2 p4 fun W h => ⟨h, ?_⟩
  refine ent_spec hT.pow h p2 hn fun W h => ?_
  refine jni (fun vs W' => vs = [.pointer (some ⟨b, 0, none⟩)] ∧ St w0 G0 (Ky b (PtO p) :: l) W') ?_ ?_
  rotate_left
  · refine w_neqL (b := []) (ifd (fun z1 => ?_) fun _ => ⟨rfl, h⟩)
    refine w_neqL (b := []) (ifd (fun z2 => ?_) fun _ => ⟨rfl, h⟩)
    obtain ⟨g1, g2⟩ := numb_less z1 z2
    refine x_lssL (a_fld0 (h.load (a_lss (x_neb ?_))))
    rw [g1, beq_self_eq_true]
    refine iff' (x_len (x_len (w_neq (ifd_neg (by rw [g2]; simp) ⟨rfl, h⟩))))
  clear h
  rintro vs W1 _ ⟨rfl, h⟩
  refine app1 ?_
  refine ⟨St w0 G0 _, h.drew, ?_⟩
  replace h := h.drew
  refine a_fld0 (ss_load (a_fld0 (ss_load (a_fld0 (ss_load (a_fld0 (ss_load (a_fld0 (ss_load ?_)))))))))
  refine a_fld0 (ss_load (a_fld0 (ss_load (a_fld0 (ss_load (a_fld0 (ss_load ?_)))))))
  refine ent_spec hT.pow h p2 p4 fun W h => ⟨h, ?_⟩
  refine sub_spec h p1 p2 fun W h => ⟨h, ?_⟩
  refine state_spec hT.pow h p1 p2 p4 fun W h => ⟨h, ?_⟩
  refine folder_spec h p1 p3 fun W h => ?_
  refine h.lit fun v W ov h => ?_
  refine ⟨St w0 G0 _, h.drew, ?_⟩
  replace h := h.drew
  refine a_fld0 (ss_load (a_fld0 (ss_load (a_fld0 (ss_load (a_fld0 (ss_load (a_fld0 (ss_load ?_)))))))))
  refine ents_spec h p2 fun W h => ⟨h, ?_⟩
  refine subs_spec h p1 fun W h => ⟨h, ?_⟩
  refine states_spec h p1 p2 fun W h => ⟨h, ?_⟩
  refine folders_spec h p1 fun W h => ?_
  refine h.lit fun u W ou h => ?_
  have key : ∀ i, i < 4 → ∃ x m : Txt, [strV (numb (jnS [101] [p.feed]) p.num), strV (jnS [115] [p.user, p.feed]), strV (numb (jnS [114] [p.user, p.feed]) p.num), strV (jnS [100] [p.user, p.name])][i]? = some (strV x) ∧
      [strV (bgn (jnS [101] [p.feed])), strV (bgn (jnS [115] [p.user])), strV (bgn (jnS [114] [p.user, p.feed])), strV (bgn (jnS [100] [p.user]))][i]? = some (strV m) ∧ begins m x := fun i hi => by
    match i, hi with
    | 0, _ => exact ⟨_, _, rfl, rfl, beg_numb⟩
    | 1, _ => exact ⟨_, _, rfl, rfl, beg_jn2 (by simp)⟩
    | 2, _ => exact ⟨_, _, rfl, rfl, beg_numb⟩
    | 3, _ => exact ⟨_, _, rfl, rfl, beg_jn2 (by simp)⟩
  refine lpx (α := Nat) (fun i => [nV .i64 i]) (fun i W' => i ≤ 4 ∧ St w0 G0 (Ky u (Ow 9 1 4 [strV (bgn (jnS [101] [p.feed])), strV (bgn (jnS [115] [p.user])), strV (bgn (jnS [114] [p.user, p.feed])), strV (bgn (jnS [100] [p.user]))]) :: Ky v (Ow 9 1 4 [strV (numb (jnS [101] [p.feed]) p.num), strV (jnS [115] [p.user, p.feed]), strV (numb (jnS [114] [p.user, p.feed]) p.num), strV (jnS [100] [p.user, p.name])]) :: l) W') (fun i => 4 - i) 0 (fun _ => rfl) rfl ⟨by decide, h.to⟩ ?_
  generalize [strV (bgn (jnS [101] [p.feed])), strV (bgn (jnS [115] [p.user])), strV (bgn (jnS [114] [p.user, p.feed])), strV (bgn (jnS [100] [p.user]))] = ms at key ⊢
  generalize [strV (numb (jnS [101] [p.feed]) p.num), strV (jnS [115] [p.user, p.feed]), strV (numb (jnS [114] [p.user, p.feed]) p.num), strV (jnS [100] [p.user, p.name])] = xs at key ⊢
  clear h
  rintro next i W1 hnext ⟨hi, h⟩
  refine app1 ?_
  refine x_lenS (h.osl (v := v)) (a_lss (ifd (fun hc => ?_) fun hc => ?_))
  · obtain ⟨x, m, ex, em, hb⟩ := key i (by omega)
    refine jni (fun vs W' => vs = [v, u, nV .i64 i] ∧ St w0 G0 (Ky u (Ow 9 1 4 ms) :: Ky v (Ow 9 1 4 xs) :: l) W') ?_ ?_
    · rintro vs W' _ ⟨rfl, h⟩
      refine app3 ?_
      refine a_add64 (by omega) (by omega) ⟨rfl, rfl, ?_⟩
      rw [show ((i : Int) + 1) = ((i + 1 : Nat) : Int) by push_cast; rfl]
      exact hnext (i + 1) _ (by omega) ⟨by omega, h⟩
    · refine ⟨St w0 G0 (Ky u (Ow 9 1 4 ms) :: Ky v (Ow 9 1 4 xs) :: l), h.drew, ?_⟩
      replace h := h.drew
      refine x_sat (h.osl (v := v)) (fun w hw => hw.osl (v := v)) ex ?_
      refine s_neqL (b := []) (ifd (fun hx => ?_) fun _ => ⟨rfl, h⟩)
      obtain ⟨b1, b2, b3⟩ := hb hx
      refine x_sat (h.osl (v := u)) (fun w hw => hw.osl (v := u)) em ?_
      refine s_eqlL (b := []) (ifd_neg b1 ?_)
      refine x_sat (h.osl (v := v)) (fun w hw => hw.osl (v := v)) ex (x_lens ?_)
      refine x_sat (h.osl (v := u)) (fun w hw => hw.osl (v := u)) em (x_lens (a_leq (ifd_neg (by omega) ?_)))
      refine x_sat (h.osl (v := v)) (fun w hw => hw.osl (v := v)) ex ?_
      refine x_sat (h.osl (v := u)) (fun w hw => hw.osl (v := u)) em (x_lens (x_cutH (by omega) ?_))
      refine x_sat (h.osl (v := u)) (fun w hw => hw.osl (v := u)) em ?_
      exact s_neqL (ifd_neg (fun hh => hh b3) ⟨rfl, h⟩)
  · exact first14_spec hT h fun W h => k W h.to
end
end Go.Proofs.YtgflkjhljggeiaaDoor
