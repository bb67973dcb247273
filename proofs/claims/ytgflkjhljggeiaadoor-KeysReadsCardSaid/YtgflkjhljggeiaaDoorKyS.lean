/-
  KeysReads: the law.
-/
import Derived.Test.YtgflkjhljggeiaaDoorKyO
import Derived.Test.YtgflkjhljggeiaaDoorKyD
import Derived.Test.YtgflkjhljggeiaaDoorShD
namespace Go.Proofs.YtgflkjhljggeiaaDoor
open Go Go.Ez Go.RowKit Go.Lib
set_option linter.unusedSimpArgs false
set_option linter.unusedVariables false
set_option maxRecDepth 100000 in
set_option maxHeartbeats 2000000 in
theorem eql_rpt {p q : Pts} {X Y : Operand} (w : World) : (bin .eql 31 X Y (ptV p) (ptV q)).run Tryd.prog w = .ok (.bool (decide (p = q))) w := by
  have ht : Tryd.prog.underlying 31 = some (.struct (Tryd.prog.fieldsOf 31)) := by rw [Tryd.underlying31]; simp [Program.fieldsOf, Tryd.underlying31]
  have hf : Tryd.prog.fieldsOf 31 = match Tryd.prog.underlying 31 with | some (.struct fs) => fs | _ => #[] := rfl
  rw [Tryd.underlying31] at hf
  have hg : Tryd.prog.eqGuardType Tryd.prog.depth 31 = false := by kernel_rfl
  have hs : Tryd.prog.stoodInHeld 31 = false := by kernel_rfl
  have hd : decide (p = q) = decide (p.kind = q.kind ∧ p.user = q.user ∧ p.feed = q.feed ∧ p.name = q.name ∧ p.guid = q.guid ∧ p.num = q.num) := decide_eq_decide.2 (pts_eq p q)
  rw [hd]
  unfold ptV
  show (do eqGuard .eql 31 X Y _ _; binOp .eql 31 _ _ : Sem Value).run Tryd.prog w = _
  simp only [Sem.run_bind, run_eqGuard_agg w .eql 31 X Y _ _ hg, Result.andThen, run_eql_struct, run_equalIn_agg w 9999 31 _ _ ht hs, hf]
  have es : ∀ (d : Nat) (a b : Txt), (Op.equalIn (d + 1) 9 (strV a) (strV b)).run Tryd.prog w = .ok (decide (a = b)) w := fun d a b => by
    rw [run_equalIn_string w d 9 _ _ Tryd.underlying9]
    rw [bytes_eq]
  have ei : ∀ (d : Nat) (a b : Int), (Op.equalIn (d + 1) 3 (.int .i64 a) (.int .i64 b)).run Tryd.prog w = .ok (decide (a = b)) w := fun d a b => by
    rw [run_equalIn_int w d 3 .i64 .i64 a b Tryd.underlying3]
    rfl
  by_cases h1 : p.kind = q.kind
  rotate_left
  · simp [Op.eqFields, go_sem, es 9998, ei 9998, h1, Result.andThen]
  by_cases h2 : p.user = q.user
  rotate_left
  · simp [Op.eqFields, go_sem, es 9998, ei 9998, h1, h2, Result.andThen]
  by_cases h3 : p.feed = q.feed
  rotate_left
  · simp [Op.eqFields, go_sem, es 9998, ei 9998, h1, h2, h3, Result.andThen]
  by_cases h4 : p.name = q.name
  rotate_left
  · simp [Op.eqFields, go_sem, es 9998, ei 9998, h1, h2, h3, h4, Result.andThen]
  by_cases h5 : p.guid = q.guid
  rotate_left
  · simp [Op.eqFields, go_sem, es 9998, ei 9998, h1, h2, h3, h4, h5, Result.andThen]
  by_cases h6 : p.num = q.num <;> simp [Op.eqFields, go_sem, es 9998, ei 9998, h1, h2, h3, h4, h5, h6, Result.andThen]
theorem parS_guid {s : Txt} (hs : s.length ≤ 100000) : (parS s).1.guid.length ≤ 100000 := by
  rw [← doc_same]
  have := (docX_ok (L := splF s) (N := s.length) fun p hp => splF_len hp).2.2.2.1
  unfold docS
  split
  · exact Nat.zero_le _
  · show (docX (splF s)).guid.length ≤ _
    omega
section
variable {w0 W W' : World} {l R : List As} {RR : Value → World → Prop} {s : Txt} {b : Nat} {v : Value}
/-- hbllaw14.KeysReads -/
theorem kreads_spec {p : Pts} (hT : KTabs w0) (h : St w0 G0 l W) (p4 : p.num ≤ 9223372036854775807) (k : ∀ W', St w0 G0 l W' → RR (.bool true) W') : CallF Tryd.prog 4 #[ptV p, strV s] W RR := by
  refine sh4_calls ?_
  unfold sh4
  refine h.boxS (cs := [.int .i64 p.kind, strV p.user, strV p.feed, strV p.name, strV p.guid, .int .i64 p.num]) fun b W h => ?_
  refine first14_spec hT h fun W h => ?_
  refine a_not (iff' ?_)
  refine a_fld0 (h.load (x_len (a_gtr (ifd (fun _ => first14_spec hT h fun W h => k W h.to) fun q1 => ?_))))
  refine a_fld0 (h.load (x_len (a_gtr (ifd (fun _ => first14_spec hT h fun W h => k W h.to) fun q2 => ?_))))
  refine a_fld0 (h.load (x_len (a_gtr (ifd (fun _ => first14_spec hT h fun W h => k W h.to) fun q3 => ?_))))
  refine a_fld0 (h.load (x_len (a_gtr (ifd (fun _ => first14_spec hT h fun W h => k W h.to) fun q4 => ?_))))
  refine x_len (a_gtr (ifd (fun _ => first14_spec hT h fun W h => k W h.to) fun hs => ?_))
  refine parse_spec hT h (by omega) fun W h => a_ext0 (a_ext1 ?_)
  obtain ⟨x1, x2, x3, x4⟩ := parS_ok s
  have x5 := parS_guid (s := s) (by omega)
  refine h.allocS fun b3 W h => ?_
  refine h.storeS (b := b3) (cs' := [.int .i64 (parS s).1.kind, strV (parS s).1.user, strV (parS s).1.feed, strV (parS s).1.name, strV (parS s).1.guid, .int .i64 (parS s).1.num]) fun W h => ?_
  refine rparse_spec h (by omega) fun W h => a_ext0 (a_ext1 ?_)
  refine h.allocS fun b4 W h => ?_
  refine h.storeS (b := b4) (cs' := [.int .i64 (parS s).1.kind, strV (parS s).1.user, strV (parS s).1.feed, strV (parS s).1.name, strV (parS s).1.guid, .int .i64 (parS s).1.num]) fun W h => ?_
  refine ⟨St w0 G0 _, h.drew, ?_⟩
  replace h := h.drew
  refine first14_spec hT h fun W h => ⟨h, ift ?_⟩
  refine ss_loadS (b := b) (cs := [.int .i64 p.kind, strV p.user, strV p.feed, strV p.name, strV p.guid, .int .i64 p.num]) ?_
  refine ss_loadS (b := b) (cs := [.int .i64 p.kind, strV p.user, strV p.feed, strV p.name, strV p.guid, .int .i64 p.num]) ?_
  refine key_spec (p := p) hT.pow h (by omega) (by omega) (by omega) p4 fun W h => ⟨h, ?_⟩
  refine parts_spec (p := p) h fun W h => ⟨h, ?_⟩
  refine rkey_spec (p := p) h (by omega) (by omega) (by omega) (by omega) p4 fun W h => ⟨h, ?_⟩
  refine s_eqlL (ifd_pos rfl ?_)
  refine ss_loadS (b := b3) (cs := [.int .i64 (parS s).1.kind, strV (parS s).1.user, strV (parS s).1.feed, strV (parS s).1.name, strV (parS s).1.guid, .int .i64 (parS s).1.num]) ?_
  refine ss_loadS (b := b4) (cs := [.int .i64 (parS s).1.kind, strV (parS s).1.user, strV (parS s).1.feed, strV (parS s).1.name, strV (parS s).1.guid, .int .i64 (parS s).1.num]) ?_
  refine parts_spec (p := (parS s).1) h fun W h => ⟨h, ?_⟩
  refine RunS.of (fun w _ => eql_rpt (p := (parS s).1) (q := (parS s).1) w) (ifd_pos rfl ?_)
  refine ss_eqb ?_
  rw [beq_self_eq_true]
  refine ift ?_
  refine kname_spec (by omega) ⟨h, rname_spec (by omega) ⟨h, ss_eqb ?_⟩⟩
  rw [beq_self_eq_true]
  refine ift ?_
  refine a_fld0 (ss_load (a_fld0 (ss_load ?_)))
  refine subs_spec h (by omega) fun W h => ⟨h, rpref4_spec (by omega) (by simp) ⟨h, s_eqlL (ifd_pos rfl ?_)⟩⟩
  refine a_fld0 (ss_load (a_fld0 (ss_load ?_)))
  refine folders_spec h (by omega) fun W h => ⟨h, rpref5_spec (by omega) (by simp) ⟨h, s_eqlL (ifd_pos rfl ?_)⟩⟩
  refine a_fld0 (ss_load (a_fld0 (ss_load ?_)))
  refine ents_spec h (by omega) fun W h => ⟨h, rpref2_spec (by simp) (by omega) ⟨h, s_eqlL (ifd_pos rfl ?_)⟩⟩
  refine a_fld0 (ss_load (a_fld0 (ss_load ?_)))
  refine a_fld0 (ss_load (a_fld0 (ss_load ?_)))
  refine states_spec h (by omega) (by omega) fun W h => ⟨h, rpref6_spec (by omega) (by omega) ⟨h, s_eqlL ?_⟩⟩
  rw [decide_eq_true rfl]
  exact k W h.to
end
end Go.Proofs.YtgflkjhljggeiaaDoor
