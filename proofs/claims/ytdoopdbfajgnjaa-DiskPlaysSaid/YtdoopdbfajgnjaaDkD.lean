/-
  FILES THAT FALL: a call begins; a change is made: what each function answers.
-/
import Derived.Test.YtdoopdbfajgnjaaDkC
namespace Go.Ez
open Go Go.Proofs Go.RowKit
set_option linter.unusedSimpArgs false
set_option linter.unusedVariables false
def Dd.tick (d : Dd) : Dd := { d with calls := d.calls + 1 }
theorem Dd.V.tick {d : Dd} (h : d.V) : d.tick.V := ⟨h.gm, h.ok, h.room0, h.room1, by have := h.len; show _ ≤ d.calls + 1; simp only [Dd.tick]; omega, h.plan⟩
/-- a disk that is read -/
def DkZt (t : TypeId) (d : Dd) (W : World) (v : Value) : Prop := ∃ (b nb db : Nat) (pv ev : Value) (E : List Ge) (c : Nat) (zs : Zs), v = .pointer (some ⟨b, 0, none⟩) ∧ d.V ∧
  Rec W b t [.int .i64 d.room, .map (some nb), .map (some db), pv, ev, .int .i64 (d.calls : Int), .bool d.down] ∧ W.heap[nb]? = some (mO E c) ∧ GmOk zs d.now E c ∧ ∀ z ∈ zs, By W z.1 z.2
theorem DkZt.below {t : TypeId} {d : Dd} {W W' : World} {v : Value} (h : DkZt t d W v) (hb : Below W.heap.size W W') : DkZt t d W' v := by
  obtain ⟨b, nb, db, pv, ev, E, c, zs, hv, hV, hr, hm, hg, hz⟩ := h
  exact ⟨b, nb, db, pv, ev, E, c, zs, hv, hV, hr.below hb, (hb.block nb (Array.getElem?_eq_some_iff.1 hm).1).trans hm, hg, fun z hz' => (hz z hz').below hb⟩
theorem plBy {zs : Zs} {W : World} {v : Value} {x : Txt} (h : ∀ z ∈ zs, By W z.1 z.2) (hz : PlIn zs v x) : By W v x := by
  rcases hz with hz | ⟨rfl, rfl⟩
  · exact h _ hz
  · exact Sl.nil W 1
end Go.Ez
namespace Go.Proofs.Ytdoopdbfajgnjaa
open Go Go.Ez Go.RowKit
set_option linter.unusedSimpArgs false
set_option linter.unusedVariables false
abbrev DkZ := DkZt 69
section
variable {w0 W : World} {G : Nat → Prop} {l R R1 R2 R3 : List As} {zs zs' : Zs} {d : Dd} {v ev : Value} {RR : Value → World → Prop}
theorem freezeE [i : Has l v (DkE zs d ev) R1] [j : Has R1 PoolK.a (Pl zs) R] (h : St w0 G l W) : DkZ d W v := by
  obtain ⟨b, nb, db, pv, ps, hv, hV, hps, hck, o1, o2, h2⟩ := openE' (v := v) h
  obtain ⟨E, c, hg, hm⟩ := mapOb (b := nb) h2
  refine ⟨b, nb, db, pv, ev, E, c, zs, hv, hV, h2.rc, hm, hg, fun z hz => ?_⟩
  exact h2.plGet .a (.inl hz)
theorem freezeD [i : Has l v (Dk zs d) R1] [j : Has R1 PoolK.a (Pl zs) R] (h : St w0 G l W) : DkZ d W v := by
  obtain ⟨ev, o, h2⟩ := openD (v := v) h
  exact freezeE (v := v) h2
/-- there -/
theorem there_spec {s : Txt} (hz : DkZ d W v) (k : RR (.bool (getK s d.now).isSome) W) : CallF Try.prog 41 #[v, strV s] W RR := by
  refine sh41_calls ?_
  unfold sh41
  obtain ⟨b, nb, db, pv, ev, E, c, zs, rfl, hV, hr, hm, hg, hz⟩ := hz
  refine a_nil (a_fld0 (w_ldR hr rfl ?_))
  obtain ⟨x, _, h2⟩ := run_look (P := Try.prog) (t := 66) (kt := 9) (et := 29) (k := s) (ok := true) hg hm
  refine .of h2 ?_
  refine a_ext0 (a_ext1 ?_)
  exact k
/-- Calls -/
theorem calls_spec (hz : DkZ d W v) (k : RR (.int .i64 (d.calls : Int)) W) : CallF Try.prog 29 #[v] W RR := by
  refine sh29_calls ?_
  unfold sh29
  obtain ⟨b, nb, db, pv, ev, E, c, zs, rfl, hV, hr, hm, hg, hz⟩ := hz
  refine a_nil (a_fld0 (w_ldR hr rfl ?_))
  exact k
/-- Up -/
theorem up_spec (hz : DkZ d W v) (k : RR (.bool (!d.down)) W) : CallF Try.prog 31 #[v] W RR := by
  refine sh31_calls ?_
  unfold sh31
  obtain ⟨b, nb, db, pv, ev, E, c, zs, rfl, hV, hr, hm, hg, hz⟩ := hz
  refine a_nil (a_fld0 (w_ldR hr rfl (a_not ?_)))
  exact k
/-- does -/
theorem does_spec {c : Chg} {s : Sv} [i : Has l v (Dk zs d) R1] [j : Has R1 PoolK.a (Pl zs) R] (h : St w0 G l W) (hok : c.ok d.now) (hck : ChK zs (c, s)) (hl : d.dur.length + d.pend.length + 1 ≤ d.calls) (hc : d.calls ≤ 1000000000)
    (k : ∀ zs' W', (∀ z ∈ zs, z ∈ zs') → St w0 G (Ky v (Dk zs' (d.does c)) :: Ky PoolK.a (Pl zs') :: R) W' → RR (.int .i64 0) W') : CallF Try.prog 42 #[v, .agg (chC (c, s)).toArray] W RR := by
  refine sh42_calls ?_
  unfold sh42
  replace h := has2 (k := v) (k' := PoolK.a) h
  obtain ⟨ev, oe, h2⟩ := openD (v := v) h
  obtain ⟨b, nb, db, pv, ps, hv, hV, hps, hcks, o1, o2, h3⟩ := openE' (v := v) h2
  subst hv
  replace h := h3
  clear h2 h3
  refine h.boxS (cs := chC (c, s)) fun bx W h => ?_
  replace h := h.drew
  refine ⟨St w0 G _, h, ?_⟩
  refine a_nil (a_fld0 (ss_load (ss_loadS ?_)))
  refine make_spec (b := nb) (c := c) (s := s) h hV.now hok hck fun zs1 W hz1 h => ?_
  replace h := h.drew
  refine ⟨fun W' => Rec W' b 69 [.int .i64 d.room, .map (some nb), .map (some db), pv, ev, .int .i64 (d.calls : Int), .bool d.down] ∧ Rec W' bx 73 (chC (c, s)), ⟨h.rc, h.rc⟩, ?_⟩
  refine a_nil (a_fld0 (s_ld (fun w hw => hw.1) rfl ?_))
  refine s_of (v := .agg (chC (c, s)).toArray) (fun w hw => x_lds (cs := chC (c, s)) (chC_len _) (fun j u hu => by
    have := hw.2.cell hu
    rw [Nat.zero_add]; exact this) rfl) ?_
  refine h.lit (vs := [.agg (chC (c, s)).toArray]) (cs := chC (c, s)) (c := ⟨by intro u hu; simp only [List.mem_singleton] at hu; subst hu; show (chC (c, s)).toArray.size = 5; rw [List.size_toArray, chC_len], by simp [Value.cells]⟩) (fun u W o h => ?_) (by decide)
  refine ⟨⟨h.rc, h.rc⟩, ?_⟩
  have hpl : ps.length ≤ 1000000000 := by
    have := hV.len
    have h1 : d.pend.length = ps.length := by rw [← hps]; simp
    omega
  refine h.app (v := pv) (m := 1) (news := chC (c, s)) (h.osl (v := u)) (fun x hx => chC_one [(c, s)] x (by simpa [rcells] using hx)) (by unfold maxLen; omega) (by omega) fun pv2 W o h _ => ?_
  (repeat (first | (with_reducible refine ift ?_) | (with_reducible refine iff' ?_) | (with_reducible refine a_lss ?_) | (with_reducible refine a_leq ?_) | (with_reducible refine a_gtr ?_) | (with_reducible refine a_geq ?_) | (with_reducible refine w_eql ?_) | (with_reducible refine w_neq ?_) | (with_reducible refine s_eql ?_) | (with_reducible refine s_neq ?_) | ((with_reducible refine a_add64 ?h0 ?h1 ?_); (case h0 => omega); (case h1 => omega);  skip) | ((with_reducible refine a_sub64 ?h0 ?h1 ?_); (case h0 => omega); (case h1 => omega);  skip) | ((with_reducible refine a_mul64 ?h0 ?h1 ?_); (case h0 => omega); (case h1 => omega);  skip) | (with_reducible refine a_notd ?_) | (with_reducible refine a_not ?_) | (with_reducible refine a_ext0 ?_) | (with_reducible refine a_ext1 ?_) | (with_reducible refine a_ext2 ?_) | (with_reducible refine x_len ?_) | (with_reducible refine x_lens ?_) | (with_reducible refine x_eqb ?_) | (with_reducible refine x_neb ?_) | (with_reducible refine x_nilP ?_) | (with_reducible refine x_nilPn ?_) | (with_reducible refine x_nilF ?_) | (with_reducible refine x_nilFF ?_) | (with_reducible refine w_eqlL ?_) | (with_reducible refine w_neqL ?_) | (with_reducible refine s_eqlL ?_) | (with_reducible refine ifnt ?_) | (with_reducible refine ifnf ?_) | (with_reducible refine x_eqB ?_) | (with_reducible refine x_neB ?_) | (with_reducible refine x_lssL ?_) | (with_reducible refine x_gtrL ?_) | (with_reducible refine x_geqL ?_) | (with_reducible refine s_neqL ?_) | (with_reducible refine St.load h ?_) | (with_reducible refine St.loadS h ?_) | (with_reducible refine a_fld0 ?_) | (with_reducible refine St.store h fun W h => ?_) | (with_reducible refine St.storeS h fun W h => ?_) | (with_reducible refine St.alloc h fun b W h => ?_) | (with_reducible refine St.allocS h fun b W h => ?_) | (with_reducible refine a_nil ?_) | (with_reducible refine ss_load ?_) | (with_reducible refine ss_loadS ?_) | (with_reducible refine ss_eqb ?_)))
  replace h := h.upG (b := db) hz1
  have hr : rcells chC ps ++ chC (c, s) = rcells chC (ps ++ [(c, s)]) := by rw [rc_append]; simp [rcells]
  refine k zs1 W hz1 (shutD (v := .pointer (some ⟨b, 0, none⟩)) (shutE' (b := b) (nb := nb) (db := db) (pv := pv2) (ev := ev) (ps := ps ++ [(c, s)]) (d.does c) h (hV.does hok hl) ?_ ?_ rfl (does_now d c).symm rfl ?_ hr rfl rfl)).to
  · show _ = d.pend ++ [c]
    rw [← hps]; simp
  · intro x hx
    rcases List.mem_append.1 hx with hx | hx
    · exact (hcks x hx).sub hz1
    · simp only [List.mem_singleton] at hx
      subst hx
      exact hck.sub hz1
  · simp
/-- call -/
theorem call_spec {ns : List Txt} {a1 : Value} [i : Has l v (Dk zs d) R1] [j : Has R1 PoolK.a (Pl zs) R2] [q : Has R2 a1 (Ow 9 1 ns.length (ns.map strV)) R] (h : St w0 G l W) (hc : d.calls ≤ 1000000000) (hn : ∀ s ∈ ns, s.length ≤ 1000000000)
    (k : ∀ zs' W', (∀ z ∈ zs, z ∈ zs') → St w0 G (Ky v (Dk zs' (d.call ns).1) :: Ky PoolK.a (Pl zs') :: R) W' → RR (.tuple #[.bool (d.call ns).2.1, .int .i64 (d.call ns).2.2]) W') : CallF Try.prog 40 #[v, a1] W RR := by
  refine sh40_calls ?_
  unfold sh40
  replace h := has2 (k := v) (k' := PoolK.a) h
  obtain ⟨ev, oe, h2⟩ := openD (v := v) h
  obtain ⟨b, nb, db, pv, ps, hv, hV, hps, hcks, o1, o2, h3⟩ := openE' (v := v) h2
  subst hv
  replace h := h3
  clear h2 h3
  (repeat (first | (with_reducible refine ift ?_) | (with_reducible refine iff' ?_) | (with_reducible refine a_lss ?_) | (with_reducible refine a_leq ?_) | (with_reducible refine a_gtr ?_) | (with_reducible refine a_geq ?_) | (with_reducible refine w_eql ?_) | (with_reducible refine w_neq ?_) | (with_reducible refine s_eql ?_) | (with_reducible refine s_neq ?_) | ((with_reducible refine a_add64 ?h0 ?h1 ?_); (case h0 => omega); (case h1 => omega);  skip) | ((with_reducible refine a_sub64 ?h0 ?h1 ?_); (case h0 => omega); (case h1 => omega);  skip) | ((with_reducible refine a_mul64 ?h0 ?h1 ?_); (case h0 => omega); (case h1 => omega);  skip) | (with_reducible refine a_notd ?_) | (with_reducible refine a_not ?_) | (with_reducible refine a_ext0 ?_) | (with_reducible refine a_ext1 ?_) | (with_reducible refine a_ext2 ?_) | (with_reducible refine x_len ?_) | (with_reducible refine x_lens ?_) | (with_reducible refine x_eqb ?_) | (with_reducible refine x_neb ?_) | (with_reducible refine x_nilP ?_) | (with_reducible refine x_nilPn ?_) | (with_reducible refine x_nilF ?_) | (with_reducible refine x_nilFF ?_) | (with_reducible refine w_eqlL ?_) | (with_reducible refine w_neqL ?_) | (with_reducible refine s_eqlL ?_) | (with_reducible refine ifnt ?_) | (with_reducible refine ifnf ?_) | (with_reducible refine x_eqB ?_) | (with_reducible refine x_neB ?_) | (with_reducible refine x_lssL ?_) | (with_reducible refine x_gtrL ?_) | (with_reducible refine x_geqL ?_) | (with_reducible refine s_neqL ?_) | (with_reducible refine St.load h ?_) | (with_reducible refine St.loadS h ?_) | (with_reducible refine a_fld0 ?_) | (with_reducible refine St.store h fun W h => ?_) | (with_reducible refine St.storeS h fun W h => ?_) | (with_reducible refine St.alloc h fun b W h => ?_) | (with_reducible refine St.allocS h fun b W h => ?_) | (with_reducible refine a_nil ?_) | (with_reducible refine ss_load ?_) | (with_reducible refine ss_loadS ?_) | (with_reducible refine ss_eqb ?_)))
  refine x_lenS (h.osl (v := ev)) ?_
  have hd0 := hV.tick
  replace h := has2 (k := (.pointer (some ⟨b, 0, none⟩) : Value)) (k' := PoolK.a) (shutE' (b := b) (nb := nb) (db := db) (pv := pv) (ev := ev) (ps := ps) d.tick h hd0 hps hcks (by simp [Dd.tick]) rfl rfl rfl rfl rfl rfl)
  have hk : d.call ns = ((evs d.plan d.tick false).1, (evs d.plan d.tick false).2, if (evs d.plan d.tick false).1.down then 9 else if ns.all okN then 0 else 11) := rfl
  rw [hk] at k
  generalize hd0e : d.tick = d0 at h hd0 k
  have hp0 : d0.plan = d.plan := by rw [← hd0e]; rfl
  have hpl := hV.plan
  refine lpx (α := Nat) (fun i => [.bool (evs (d.plan.take i) d0 false).2, nV .i64 i]) (fun i W' => i ≤ d.plan.length ∧ ∃ zs', (∀ z ∈ zs, z ∈ zs') ∧ St w0 G (Ky (.pointer (some ⟨b, 0, none⟩) : Value) (DkE zs' (evs (d.plan.take i) d0 false).1 ev) :: Ky PoolK.a (Pl zs') :: R2) W') (fun i => d.plan.length - i) 0 (fun _ => rfl) rfl ⟨Nat.zero_le _, zs, fun _ h => h, h⟩ ?_
  rintro next i W hnext ⟨hi, zs1, hz1, h⟩
  refine app2 ?_
  have hsl : ∀ {W : World}, St w0 G (Ky (.pointer (some ⟨b, 0, none⟩) : Value) (DkE zs1 (evs (d.plan.take i) d0 false).1 ev) :: Ky PoolK.a (Pl zs1) :: R2) W → Sl W 4 ev d.plan.length (rcells evC d.plan) := fun {W} h => by
    obtain ⟨b', nb, db, pv, ps, hv, hV', hps, hcks, o1, o2, h3⟩ := openE' (v := (.pointer (some ⟨b, 0, none⟩) : Value)) h
    have := h3.osl (v := ev)
    rw [(evs_calls (d.plan.take i) d0 false).2.1, hp0] at this
    exact this
  refine a_lss (ifd (fun hlt => ?_) fun hlt => ?_)
  · have hil : i < d.plan.length := by omega
    obtain ⟨e, he⟩ : ∃ e, d.plan[i]? = some e := ⟨_, List.getElem?_eq_getElem hil⟩
    have hsucc := evs_succ he d0 false
    rw [evs_one] at hsucc
    generalize hdi : evs (d.plan.take i) d0 false = di at h hsl hsucc ⊢
    have hcl : di.1.calls = d0.calls := by rw [← hdi]; exact (evs_calls _ _ _).1
    refine jni (fun vs W' => vs = [.pointer (some ⟨b, 0, none⟩), a1, .bool (evs (d.plan.take (i + 1)) d0 false).2, ev, nV .i64 d.plan.length, nV .i64 i] ∧ ∃ zs', (∀ z ∈ zs, z ∈ zs') ∧ St w0 G (Ky (.pointer (some ⟨b, 0, none⟩) : Value) (DkE zs' (evs (d.plan.take (i + 1)) d0 false).1 ev) :: Ky PoolK.a (Pl zs') :: R2) W') ?_ ?_
    · rintro vs W2 _ ⟨rfl, zs2, hz2, h⟩
      refine app6 ?_
      refine a_add64 (by omega) (by omega) ?_
      rw [show ((i : Int) + 1) = ((i + 1 : Nat) : Int) by push_cast; rfl]
      exact ⟨rfl, rfl, rfl, rfl, hnext (i + 1) W2 (by omega) ⟨by omega, zs2, hz2, h⟩⟩
    refine x_idx (hsl h) hil fun g o hcell => ?_
    refine x_lds (cs := evC e) rfl (fun j u hu => hcell j u (List.getElem?_eq_some_iff.1 hu).1 (by rw [rc_get (f := evC) (sz := 4) (fun _ => rfl) he (List.getElem?_eq_some_iff.1 hu).1, hu])) ?_
    refine h.allocS fun bx W h => ?_
    refine h.storeS (cs' := evC e) fun W h => ?_
    replace h := h.drew
    obtain ⟨b', nb, db, pv, ps, hv, hV', hps, hcks, o1, o2, h3⟩ := openE' (v := (.pointer (some ⟨b, 0, none⟩) : Value)) h
    cases hv
    have hS : St w0 G (Ky bx (Ob (.cells [.int .i64 e.1, .int .i64 e.2.1, .int .i64 e.2.2.1, .int .i64 e.2.2.2].toArray 76 (0, 0))) :: _) W.drew := h3.find (k := bx) (X := Ob (.cells (evC e).toArray 76 (0, 0)))
    refine ⟨St w0 G _, hS, ?_⟩
    refine a_fld0 (ss_load (a_nil (a_fld0 (ss_load (s_neq ?_)))))
    rw [hcl] at hsucc ⊢
    replace h : St w0 G (Ky bx (Ob (.cells [.int .i64 e.1, .int .i64 e.2.1, .int .i64 e.2.2.1, .int .i64 e.2.2.2].toArray 76 (0, 0))) :: Ky (.pointer (some ⟨b, 0, none⟩) : Value) (DkE zs1 di.1 ev) :: Ky PoolK.a (Pl zs1) :: R2) W.drew := h
    refine ifd (fun hne => ?_) fun hne => ?_
    · rw [if_pos hne] at hsucc
      exact ⟨by rw [hsucc], zs1, hz1, by rw [hsucc]; exact h.to⟩
    rw [if_neg hne] at hsucc
    (repeat (first | (with_reducible refine ift ?_) | (with_reducible refine iff' ?_) | (with_reducible refine a_lss ?_) | (with_reducible refine a_leq ?_) | (with_reducible refine a_gtr ?_) | (with_reducible refine a_geq ?_) | (with_reducible refine w_eql ?_) | (with_reducible refine w_neq ?_) | (with_reducible refine s_eql ?_) | (with_reducible refine s_neq ?_) | ((with_reducible refine a_add64 ?h0 ?h1 ?_); (case h0 => omega); (case h1 => omega);  skip) | ((with_reducible refine a_sub64 ?h0 ?h1 ?_); (case h0 => omega); (case h1 => omega);  skip) | ((with_reducible refine a_mul64 ?h0 ?h1 ?_); (case h0 => omega); (case h1 => omega);  skip) | (with_reducible refine a_notd ?_) | (with_reducible refine a_not ?_) | (with_reducible refine a_ext0 ?_) | (with_reducible refine a_ext1 ?_) | (with_reducible refine a_ext2 ?_) | (with_reducible refine x_len ?_) | (with_reducible refine x_lens ?_) | (with_reducible refine x_eqb ?_) | (with_reducible refine x_neb ?_) | (with_reducible refine x_nilP ?_) | (with_reducible refine x_nilPn ?_) | (with_reducible refine x_nilF ?_) | (with_reducible refine x_nilFF ?_) | (with_reducible refine w_eqlL ?_) | (with_reducible refine w_neqL ?_) | (with_reducible refine s_eqlL ?_) | (with_reducible refine ifnt ?_) | (with_reducible refine ifnf ?_) | (with_reducible refine x_eqB ?_) | (with_reducible refine x_neB ?_) | (with_reducible refine x_lssL ?_) | (with_reducible refine x_gtrL ?_) | (with_reducible refine x_geqL ?_) | (with_reducible refine s_neqL ?_) | (with_reducible refine St.load h ?_) | (with_reducible refine St.loadS h ?_) | (with_reducible refine a_fld0 ?_) | (with_reducible refine St.store h fun W h => ?_) | (with_reducible refine St.storeS h fun W h => ?_) | (with_reducible refine St.alloc h fun b W h => ?_) | (with_reducible refine St.allocS h fun b W h => ?_) | (with_reducible refine a_nil ?_) | (with_reducible refine ss_load ?_) | (with_reducible refine ss_loadS ?_) | (with_reducible refine ss_eqb ?_)))
    refine jni (fun vs W' => vs = [.pointer (some ⟨b, 0, none⟩), a1, .bool (evs (d.plan.take (i + 1)) d0 false).2, ev, nV .i64 d.plan.length, nV .i64 i] ∧ ∃ zs', (∀ z ∈ zs, z ∈ zs') ∧ St w0 G (Ky (.pointer (some ⟨b, 0, none⟩) : Value) (DkE zs' (evs (d.plan.take (i + 1)) d0 false).1 ev) :: Ky PoolK.a (Pl zs') :: R2) W') ?_ ?_
    · rintro vs W2 _ ⟨rfl, h⟩
      exact app6 ⟨rfl, h⟩
    refine w_eql (ifd (fun h1 => ?_) fun h1 => ?_)
    · rw [if_pos h1] at hsucc
      (repeat (first | (with_reducible refine ift ?_) | (with_reducible refine iff' ?_) | (with_reducible refine a_lss ?_) | (with_reducible refine a_leq ?_) | (with_reducible refine a_gtr ?_) | (with_reducible refine a_geq ?_) | (with_reducible refine w_eql ?_) | (with_reducible refine w_neq ?_) | (with_reducible refine s_eql ?_) | (with_reducible refine s_neq ?_) | ((with_reducible refine a_add64 ?h0 ?h1 ?_); (case h0 => omega); (case h1 => omega);  skip) | ((with_reducible refine a_sub64 ?h0 ?h1 ?_); (case h0 => omega); (case h1 => omega);  skip) | ((with_reducible refine a_mul64 ?h0 ?h1 ?_); (case h0 => omega); (case h1 => omega);  skip) | (with_reducible refine a_notd ?_) | (with_reducible refine a_not ?_) | (with_reducible refine a_ext0 ?_) | (with_reducible refine a_ext1 ?_) | (with_reducible refine a_ext2 ?_) | (with_reducible refine x_len ?_) | (with_reducible refine x_lens ?_) | (with_reducible refine x_eqb ?_) | (with_reducible refine x_neb ?_) | (with_reducible refine x_nilP ?_) | (with_reducible refine x_nilPn ?_) | (with_reducible refine x_nilF ?_) | (with_reducible refine x_nilFF ?_) | (with_reducible refine w_eqlL ?_) | (with_reducible refine w_neqL ?_) | (with_reducible refine s_eqlL ?_) | (with_reducible refine ifnt ?_) | (with_reducible refine ifnf ?_) | (with_reducible refine x_eqB ?_) | (with_reducible refine x_neB ?_) | (with_reducible refine x_lssL ?_) | (with_reducible refine x_gtrL ?_) | (with_reducible refine x_geqL ?_) | (with_reducible refine s_neqL ?_) | (with_reducible refine St.load h ?_) | (with_reducible refine St.loadS h ?_) | (with_reducible refine a_fld0 ?_) | (with_reducible refine St.store h fun W h => ?_) | (with_reducible refine St.storeS h fun W h => ?_) | (with_reducible refine St.alloc h fun b W h => ?_) | (with_reducible refine St.allocS h fun b W h => ?_) | (with_reducible refine a_nil ?_) | (with_reducible refine ss_load ?_) | (with_reducible refine ss_loadS ?_) | (with_reducible refine ss_eqb ?_)))
      refine crash_spec (v := (.pointer (some ⟨b, 0, none⟩) : Value)) (keep := e.2.2.1) (torn := e.2.2.2) h fun zs2 W hz2 h => ?_
      exact ⟨by rw [hsucc], zs2, fun z hz => hz2 z (hz1 z hz), by rw [hsucc]; exact h.to⟩
    rw [if_neg h1] at hsucc
    refine jni (fun vs W' => vs = [.pointer (some ⟨b, 0, none⟩), a1, .bool (evs (d.plan.take (i + 1)) d0 false).2, ev, nV .i64 d.plan.length, nV .i64 i] ∧ ∃ zs', (∀ z ∈ zs, z ∈ zs') ∧ St w0 G (Ky (.pointer (some ⟨b, 0, none⟩) : Value) (DkE zs' (evs (d.plan.take (i + 1)) d0 false).1 ev) :: Ky PoolK.a (Pl zs') :: R2) W') ?_ ?_
    · rintro vs W2 _ ⟨rfl, h⟩
      exact app6 ⟨rfl, h⟩
    refine w_eql (ifd (fun h2 => ?_) fun h2 => ?_)
    · rw [if_pos h2] at hsucc
      exact ⟨by rw [hsucc], zs1, hz1, by rw [hsucc]; exact h.to⟩
    · rw [if_neg h2] at hsucc
      exact ⟨by rw [hsucc], zs1, hz1, by rw [hsucc]; exact h.to⟩
  · obtain rfl : i = d.plan.length := by omega
    rw [List.take_length] at h ⊢
    generalize evs d.plan d0 false = r at h k ⊢
    obtain ⟨b', nb, db, pv, ps, hv, hV', hps, hcks, o1, o2, h3⟩ := openE' (v := (.pointer (some ⟨b, 0, none⟩) : Value)) h
    cases hv
    refine a_nil (a_fld0 (h3.load ?_))
    have hfin : St w0 G (Ky (.pointer (some ⟨b, 0, none⟩) : Value) (Dk zs1 r.1) :: Ky PoolK.a (Pl zs1) :: R) W := by
      have h4 := h.find (k := a1) (X := Ow 9 1 ns.length (ns.map strV))
      exact shutD (v := .pointer (some ⟨b, 0, none⟩)) h4.tail
    refine ifb (fun hd => ?_) fun hd => ?_
    · have := k zs1 W hz1 hfin
      rw [if_pos hd] at this
      exact this
    have hsa : Sl W 1 a1 ns.length (ns.map strV) := h.osl (v := a1)
    refine x_lenS hsa ?_
    have hnl : ns.length ≤ maxLen := ow_len (h.ow (v := a1))
    unfold maxLen at hnl
    refine lpx (α := Nat) (fun i => [nV .i64 i]) (fun i W' => W' = W ∧ i ≤ ns.length ∧ (ns.take i).all okN = true) (fun i => ns.length - i) 0 (fun _ => rfl) rfl ⟨rfl, Nat.zero_le _, rfl⟩ ?_
    rintro next j W' hnext2 ⟨rfl, hj, hall⟩
    refine app1 ?_
    refine a_lss (ifd (fun hlt2 => ?_) fun hlt2 => ?_)
    · have hjl : j < ns.length := by omega
      obtain ⟨s, hs⟩ : ∃ s, ns[j]? = some s := ⟨_, List.getElem?_eq_getElem hjl⟩
      refine x_at hsa (u := strV s) (by rw [List.getElem?_map, hs]; rfl) ?_
      refine name_spec (hn s (List.mem_of_getElem? hs)) ?_
      refine a_not (ifnb (fun hx => ?_) fun hx => ?_)
      · have := k zs1 W' hz1 hfin
        rw [if_neg (by rw [hd]; simp), if_neg (by
          intro ha
          rw [List.all_eq_true] at ha
          have := ha s (List.mem_of_getElem? hs)
          rw [hx] at this; cases this)] at this
        exact this
      · refine a_add64 (by omega) (by omega) ?_
        rw [show ((j : Int) + 1) = ((j + 1 : Nat) : Int) by push_cast; rfl]
        refine ⟨rfl, rfl, rfl, hnext2 (j + 1) W' (by omega) ⟨rfl, by omega, ?_⟩⟩
        rw [List.take_add_one, hs, List.all_append, hall]
        simp [hx]
    · obtain rfl : j = ns.length := by omega
      rw [List.take_length] at hall
      have := k zs1 W' hz1 hfin
      rw [if_neg (by rw [hd]; simp), if_pos hall] at this
      exact this
end
end Go.Proofs.Ytdoopdbfajgnjaa
