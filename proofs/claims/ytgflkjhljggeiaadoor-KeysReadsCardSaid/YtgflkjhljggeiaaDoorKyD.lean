/-
  KeysApart: the walk.
-/
import Derived.Test.YtgflkjhljggeiaaDoorKyC
namespace Go.Proofs.YtgflkjhljggeiaaDoor
open Go Go.Ez Go.RowKit Go.Lib
set_option linter.unusedSimpArgs false
set_option linter.unusedVariables false
theorem pts_eq (p q : Pts) : p = q ↔ (p.kind = q.kind ∧ p.user = q.user ∧ p.feed = q.feed ∧ p.name = q.name ∧ p.guid = q.guid ∧ p.num = q.num) := by
  cases p; cases q; simp only [Pts.mk.injEq]
set_option maxRecDepth 100000 in
set_option maxHeartbeats 2000000 in
theorem eql_pt {p q : Pts} {X Y : Operand} (w : World) : (bin .eql 23 X Y (ptV p) (ptV q)).run Tryd.prog w = .ok (.bool (decide (p = q))) w := by
  have ht : Tryd.prog.underlying 23 = some (.struct (Tryd.prog.fieldsOf 23)) := by rw [Tryd.underlying23]; simp [Program.fieldsOf, Tryd.underlying23]
  have hf : Tryd.prog.fieldsOf 23 = match Tryd.prog.underlying 23 with | some (.struct fs) => fs | _ => #[] := rfl
  rw [Tryd.underlying23] at hf
  have hg : Tryd.prog.eqGuardType Tryd.prog.depth 23 = false := by kernel_rfl
  have hs : Tryd.prog.stoodInHeld 23 = false := by kernel_rfl
  have hd : decide (p = q) = decide (p.kind = q.kind ∧ p.user = q.user ∧ p.feed = q.feed ∧ p.name = q.name ∧ p.guid = q.guid ∧ p.num = q.num) := decide_eq_decide.2 (pts_eq p q)
  rw [hd]
  unfold ptV
  show (do eqGuard .eql 23 X Y _ _; binOp .eql 23 _ _ : Sem Value).run Tryd.prog w = _
  simp only [Sem.run_bind, run_eqGuard_agg w .eql 23 X Y _ _ hg, Result.andThen, run_eql_struct, run_equalIn_agg w 9999 23 _ _ ht hs, hf]
  have es : ∀ (d : Nat) (a b : Txt), (Op.equalIn (d + 1) 9 (strV a) (strV b)).run Tryd.prog w = .ok (decide (a = b)) w := fun d a b => by
    rw [run_equalIn_string w d 9 _ _ Tryd.underlying9]
    rw [bytes_eq]
  have ei : ∀ (d : Nat) (a b : Int), (Op.equalIn (d + 1) 3 (.int .i64 a) (.int .i64 b)).run Tryd.prog w = .ok (decide (a = b)) w := fun d a b => by
    rw [run_equalIn_int w d 3 .i64 .i64 a b Tryd.underlying3]
    rfl
  by_cases h1 : p.kind = q.kind
  rotate_left
  · simp [Op.eqFields, go_sem, es 9998, ei 9998, h1, Result.andThen]
  by_cases h2 : p.user = q.user
  rotate_left
  · simp [Op.eqFields, go_sem, es 9998, ei 9998, h1, h2, Result.andThen]
  by_cases h3 : p.feed = q.feed
  rotate_left
  · simp [Op.eqFields, go_sem, es 9998, ei 9998, h1, h2, h3, Result.andThen]
  by_cases h4 : p.name = q.name
  rotate_left
  · simp [Op.eqFields, go_sem, es 9998, ei 9998, h1, h2, h3, h4, Result.andThen]
  by_cases h5 : p.guid = q.guid
  rotate_left
  · simp [Op.eqFields, go_sem, es 9998, ei 9998, h1, h2, h3, h4, h5, Result.andThen]
  by_cases h6 : p.num = q.num <;> simp [Op.eqFields, go_sem, es 9998, ei 9998, h1, h2, h3, h4, h5, h6, Result.andThen]
section
variable {w0 W W' : World} {l R : List As} {RR : Value → World → Prop} {t s : Txt} {c : UInt8} {b n : Nat} {v : Value}
/-- hbllaw14.KeysApart -/
theorem apart_spec {p q : Pts} (hT : KTabs w0) (h : St w0 G0 l W) (p1 : p.user.length ≤ 9223372036854775807) (p2 : p.feed.length ≤ 9223372036854775807) (p3 : p.name.length ≤ 9223372036854775807) (p4 : p.num ≤ 9223372036854775807)
    (q1 : q.user.length ≤ 9223372036854775807) (q2 : q.feed.length ≤ 9223372036854775807) (q3 : q.name.length ≤ 9223372036854775807) (q4 : q.num ≤ 9223372036854775807) (k : ∀ W', St w0 G0 l W' → RR (.bool true) W') :
    CallF Tryd.prog 3 #[ptV p, ptV q] W RR := by
  refine sh3_calls ?_
  unfold sh3
  refine h.boxS (cs := [.int .i64 p.kind, strV p.user, strV p.feed, strV p.name, strV p.guid, .int .i64 p.num]) fun b1 W h => ?_
  refine h.boxS (cs := [.int .i64 q.kind, strV q.user, strV q.feed, strV q.name, strV q.guid, .int .i64 q.num]) fun b2 W h => ?_
  refine first14_spec hT h fun W h => ?_
  refine a_not (iff' ?_)
  refine a_fld0 (h.load (x_len ?_))
  refine a_fld0 (h.load (x_len (a_add ?_)))
  refine a_fld0 (h.load (x_len (a_add ?_)))
  refine a_fld0 (h.load (x_len (a_add ?_)))
  refine a_gtr (ifd (fun _ => first14_spec hT h fun W h => k W h.to) fun _ => ?_)
  refine a_fld0 (h.load (x_len ?_))
  refine a_fld0 (h.load (x_len (a_add ?_)))
  refine a_fld0 (h.load (x_len (a_add ?_)))
  refine a_fld0 (h.load (x_len (a_add ?_)))
  refine a_gtr (ifd (fun _ => first14_spec hT h fun W h => k W h.to) fun _ => ?_)
  refine ⟨St w0 G0 _, h.drew, ?_⟩
  replace h := h.drew
  refine ss_loadS (b := b1) (ss_loadS (b := b2) ?_)
  refine key_spec (p := p) hT.pow h p1 p2 p3 p4 fun W h => ⟨h, ?_⟩
  refine key_spec (p := q) hT.pow h q1 q2 q3 q4 fun W h => ?_
  have ka := keyS_len p
  have kb := keyS_len q
  refine parse_spec hT h (by omega) fun W h => a_ext0 (a_ext1 ?_)
  refine h.allocS fun b3 W h => ?_
  refine h.storeS (b := b3) (cs' := [.int .i64 (parS (keyS p)).1.kind, strV (parS (keyS p)).1.user, strV (parS (keyS p)).1.feed, strV (parS (keyS p)).1.name, strV (parS (keyS p)).1.guid, .int .i64 (parS (keyS p)).1.num]) fun W h => ?_
  refine parse_spec hT h (by omega) fun W h => a_ext0 (a_ext1 ?_)
  refine h.allocS fun b4 W h => ?_
  refine h.storeS (b := b4) (cs' := [.int .i64 (parS (keyS q)).1.kind, strV (parS (keyS q)).1.user, strV (parS (keyS q)).1.feed, strV (parS (keyS q)).1.name, strV (parS (keyS q)).1.guid, .int .i64 (parS (keyS q)).1.num]) fun W h => ?_
  refine jni (fun vs W' => vs = [.pointer (some ⟨b1, 0, none⟩), .pointer (some ⟨b2, 0, none⟩)] ∧ St w0 G0 (Ky b2 (PtO q) :: Ky b1 (PtO p) :: l) W') ?_ ?_
  rotate_left
  · refine ifb (fun y1 => ifb (fun y2 => ?_) fun _ => ⟨rfl, h.to⟩) fun _ => ⟨rfl, h.to⟩
    refine w_eqlL (h.loadS (h.loadS ?_))
    refine RunW.of (eql_pt (p := (parS (keyS p)).1) (q := (parS (keyS q)).1) W) (x_neb ?_)
    have hiff : decide (keyS p = keyS q) = decide ((parS (keyS p)).1 = (parS (keyS q)).1) := decide_eq_decide.2 ⟨fun e => by rw [e], fun e => by rw [← par_ok y1, ← par_ok y2, e]⟩
    rw [hiff, beq_self_eq_true]
    exact iff' ⟨rfl, h.to⟩
  clear h
  rintro vs W1 _ ⟨rfl, h⟩
  refine app2 ?_
  refine ⟨St w0 G0 _, h.drew, ?_⟩
  replace h := h.drew
  refine a_fld0 (ss_load (a_fld0 (ss_load ?_)))
  refine ents_spec h p2 fun W h => ⟨h, ?_⟩
  refine ents_spec h q2 fun W h => ?_
  refine a_fld0 (h.load (a_fld0 (h.load (ent_spec hT.pow h q2 q4 fun W h => ?_))))
  refine first14_spec hT h fun W h => ift ?_
  have hsame : bgn (jnS [101] [p.feed]) ≠ [] → bgn (jnS [101] [q.feed]) ≠ [] → (decide (bgn (jnS [101] [p.feed]) = bgn (jnS [101] [q.feed])) == decide (p.feed = q.feed)) = true := fun z1 z2 => by
    rw [show decide (bgn (jnS [101] [p.feed]) = bgn (jnS [101] [q.feed])) = decide (p.feed = q.feed) from decide_eq_decide.2 (ent_same z1 z2), beq_self_eq_true]
  refine w_eqlL (b := []) (ifd (fun _ => (by
    refine w_eqlL (b := []) (ifd (fun _ => k _ h.to) fun z1 => ?_)
    refine w_eqlL (b := []) (ifd (fun _ => k _ h.to) fun z2 => ?_)
    refine w_eqlL ?_
    refine a_fld0 (h.load (a_fld0 (h.load (w_eqlL (x_eqb ?_)))))
    rw [hsame z1 z2]
    exact k _ h.to)) fun e1 => ?_)
  refine w_eqlL (b := []) (ifd (fun _ => (by
    refine w_eqlL (b := []) (ifd (fun _ => k _ h.to) fun z1 => ?_)
    refine w_eqlL (b := []) (ifd (fun _ => k _ h.to) fun z2 => ?_)
    refine w_eqlL ?_
    refine a_fld0 (h.load (a_fld0 (h.load (w_eqlL (x_eqb ?_)))))
    rw [hsame z1 z2]
    exact k _ h.to)) fun e2 => ?_)
  refine a_fld0 (h.load (a_fld0 (h.load (w_eqlL (ifd (fun _ => (by
    refine w_eqlL (b := []) (ifd (fun _ => k _ h.to) fun z1 => ?_)
    refine w_eqlL (b := []) (ifd (fun _ => k _ h.to) fun z2 => ?_)
    refine w_eqlL ?_
    refine a_fld0 (h.load (a_fld0 (h.load (w_eqlL (x_eqb ?_)))))
    rw [hsame z1 z2]
    exact k _ h.to)) fun e3 => ?_)))))
  refine x_len (x_len (a_lss (ifd (fun _ => (by
    refine w_eqlL (b := []) (ifd (fun _ => k _ h.to) fun z1 => ?_)
    refine w_eqlL (b := []) (ifd (fun _ => k _ h.to) fun z2 => ?_)
    refine w_eqlL ?_
    refine a_fld0 (h.load (a_fld0 (h.load (w_eqlL (x_eqb ?_)))))
    rw [hsame z1 z2]
    exact k _ h.to)) fun e4 => ?_)))
  refine x_len (x_cutH (by omega) (w_neqL (ifd (fun _ => (by
    refine w_eqlL (b := []) (ifd (fun _ => k _ h.to) fun z1 => ?_)
    refine w_eqlL (b := []) (ifd (fun _ => k _ h.to) fun z2 => ?_)
    refine w_eqlL ?_
    refine a_fld0 (h.load (a_fld0 (h.load (w_eqlL (x_eqb ?_)))))
    rw [hsame z1 z2]
    exact k _ h.to)) fun e5 => ?_)))
  exact absurd (Classical.not_not.1 e5) (ent_apart e1 e2 e3 (by omega))
end
end Go.Proofs.YtgflkjhljggeiaaDoor
