/-
  FILES THAT FALL: DiskPlays: an operation of both, both held against one another, all of them.
-/
import Derived.Test.YtdoopdbfajgnjaaDkQ
import Derived.Test.YtdoopdbfajgnjaaDkH
namespace Go.Proofs.Ytdoopdbfajgnjaa
open Go Go.Ez Go.RowKit
set_option linter.unusedSimpArgs false
set_option linter.unusedVariables false
section
variable {Wz w0 W : World} {l R R1 R2 R3 R4 R5 : List As} {zs zs' : Zs} {v xv : Value} {RR : Value → World → Prop} {s : Txt} {d dx : Dd}
/-- bytes of one's own, each one up -/
theorem upLoop {G : Nat → Prop} {a : Value} {n : Nat} {L : List As} (hn : n ≤ 2000000000) (h : St w0 G (Ky a (Ow 5 1 n (bytesV s)) :: L) W) (hl : s.length = n) {body : FnN 1 → FnN 1}
    (hstep : ∀ (next : FnN 1) (i : Nat) (s' : Txt) W, s'.length = n → St w0 G (Ky a (Ow 5 1 n (bytesV s')) :: L) W → i ≤ n → (∀ s'' W', s''.length = n → i + 1 ≤ n → St w0 G (Ky a (Ow 5 1 n (bytesV s'')) :: L) W' → next (nV .i64 (i + 1)) W') → body next (nV .i64 i) W) : lp 1 body [.int .i64 0] W := by
  refine lpx (α := Nat) (fun i => [nV .i64 i]) (fun i W' => i ≤ n ∧ ∃ s' : Txt, s'.length = n ∧ St w0 G (Ky a (Ow 5 1 n (bytesV s')) :: L) W') (fun i => n - i) 0 (fun _ => rfl) rfl ⟨Nat.zero_le _, s, hl, h⟩ ?_
  rintro next i W hnext ⟨hi, s', hl', h⟩
  exact app1 (hstep next i s' W hl' h hi fun s'' W' h1 h2 h3 => hnext (i + 1) W' (by omega) ⟨h2, s'', h1, h3⟩)
/-- Does -/
theorem ldoesx_spec {o : OpM} (hsim : Sim d dx) (hF : OpF Wz o) (hS : OpS o) (hc : d.calls ≤ 100000) (h : St Wz G0 (Ky v (Dk zs d) :: Ky xv (Xk zs dx) :: Ky PoolK.a (Pl zs) :: []) W)
    (k : ∀ zs' d' dx' W', Sim d' dx' → d'.calls ≤ d.calls + 1 → St Wz G0 (Ky v (Dk zs' d') :: Ky xv (Xk zs' dx') :: Ky PoolK.a (Pl zs') :: []) W' → RR (.bool true) W') : CallF Try.prog 33 #[v, xv, .agg (opC o).toArray] W RR := by
  refine sh33_calls ?_
  unfold sh33
  have n1 := hS.name
  have n2 := hS.to
  have n3 := hS.bytes
  have n4 := hS.events
  have hcx : dx.calls = d.calls := by rw [hsim.eq]; rfl
  refine h.boxS (cs := opC o) fun bx W h => ?_
  unfold opC at h
  (repeat (first | (with_reducible refine ift ?_) | (with_reducible refine iff' ?_) | (with_reducible refine a_lss ?_) | (with_reducible refine a_leq ?_) | (with_reducible refine a_gtr ?_) | (with_reducible refine a_geq ?_) | (with_reducible refine w_eql ?_) | (with_reducible refine w_neq ?_) | (with_reducible refine s_eql ?_) | (with_reducible refine s_neq ?_) | ((with_reducible refine a_add64 ?h0 ?h1 ?_); (case h0 => omega); (case h1 => omega);  skip) | ((with_reducible refine a_sub64 ?h0 ?h1 ?_); (case h0 => omega); (case h1 => omega);  skip) | ((with_reducible refine a_mul64 ?h0 ?h1 ?_); (case h0 => omega); (case h1 => omega);  skip) | (with_reducible refine a_notd ?_) | (with_reducible refine a_not ?_) | (with_reducible refine a_ext0 ?_) | (with_reducible refine a_ext1 ?_) | (with_reducible refine a_ext2 ?_) | (with_reducible refine x_len ?_) | (with_reducible refine x_lens ?_) | (with_reducible refine x_eqb ?_) | (with_reducible refine x_neb ?_) | (with_reducible refine x_nilP ?_) | (with_reducible refine x_nilPn ?_) | (with_reducible refine x_nilF ?_) | (with_reducible refine x_nilFF ?_) | (with_reducible refine w_eqlL ?_) | (with_reducible refine w_neqL ?_) | (with_reducible refine s_eqlL ?_) | (with_reducible refine ifnt ?_) | (with_reducible refine ifnf ?_) | (with_reducible refine x_eqB ?_) | (with_reducible refine x_neB ?_) | (with_reducible refine x_lssL ?_) | (with_reducible refine x_gtrL ?_) | (with_reducible refine x_geqL ?_) | (with_reducible refine s_neqL ?_) | (with_reducible refine St.load h ?_) | (with_reducible refine St.loadS h ?_) | (with_reducible refine a_fld0 ?_) | (with_reducible refine St.store h fun W h => ?_) | (with_reducible refine St.storeS h fun W h => ?_) | (with_reducible refine St.alloc h fun b W h => ?_) | (with_reducible refine St.allocS h fun b W h => ?_) | (with_reducible refine a_nil ?_) | (with_reducible refine ss_load ?_) | (with_reducible refine ss_loadS ?_) | (with_reducible refine ss_eqb ?_)))
  -- what is asked at the end
  let Fin : World → Prop := fun W' => ∃ zs' d' dx', Sim d' dx' ∧ d'.calls ≤ d.calls + 1 ∧ St Wz G0 (Ky v (Dk zs' d') :: Ky xv (Xk zs' dx') :: Ky PoolK.a (Pl zs') :: []) W'
  have fin1 : ∀ {zs' : Zs} {d' : Dd} {W' : World} {L : List As}, d'.plan = d.plan → d.calls ≤ d'.calls → d'.calls ≤ d.calls + 1 → ∀ [Arr L (Ky v (Dk zs' d') :: Ky xv (Xk zs' (wp d' dx.plan)) :: Ky PoolK.a (Pl zs') :: [])], St Wz G0 L W' → Fin W' := fun {zs' d' W' L} h1 h2 h3 _ h => ⟨zs', d', wp d' dx.plan, hsim.next h1 h2, h3, h.to⟩
  refine jni (fun vs W' => vs = [.bool true] ∧ Fin W') ?_ ?_
  · rintro vs W' _ ⟨rfl, zs', d', dx', h1, h2, h3⟩
    exact app1 (k zs' d' dx' W' h1 h2 h3)
  have S0 : ∀ {W' : World} {L : List As}, St Wz G0 (Ky bx (Ob (.cells [.int .i64 o.kind, .int .i64 o.a, .int .i64 o.b, strV o.name, strV o.to, svV o.bv, svV o.ev].toArray 32 (0, 0))) :: L) W' → Rec W' bx 32 [.int .i64 o.kind, .int .i64 o.a, .int .i64 o.b, strV o.name, strV o.to, svV o.bv, svV o.ev] ∧ Below Wz.heap.size Wz W' := fun h => ⟨h.rc, h.low⟩
  refine w_eql (ifd (fun hk => ?_) fun hk => ?_)
  · -- Read
    (repeat (first | (with_reducible refine ift ?_) | (with_reducible refine iff' ?_) | (with_reducible refine a_lss ?_) | (with_reducible refine a_leq ?_) | (with_reducible refine a_gtr ?_) | (with_reducible refine a_geq ?_) | (with_reducible refine w_eql ?_) | (with_reducible refine w_neq ?_) | (with_reducible refine s_eql ?_) | (with_reducible refine s_neq ?_) | ((with_reducible refine a_add64 ?h0 ?h1 ?_); (case h0 => omega); (case h1 => omega);  skip) | ((with_reducible refine a_sub64 ?h0 ?h1 ?_); (case h0 => omega); (case h1 => omega);  skip) | ((with_reducible refine a_mul64 ?h0 ?h1 ?_); (case h0 => omega); (case h1 => omega);  skip) | (with_reducible refine a_notd ?_) | (with_reducible refine a_not ?_) | (with_reducible refine a_ext0 ?_) | (with_reducible refine a_ext1 ?_) | (with_reducible refine a_ext2 ?_) | (with_reducible refine x_len ?_) | (with_reducible refine x_lens ?_) | (with_reducible refine x_eqb ?_) | (with_reducible refine x_neb ?_) | (with_reducible refine x_nilP ?_) | (with_reducible refine x_nilPn ?_) | (with_reducible refine x_nilF ?_) | (with_reducible refine x_nilFF ?_) | (with_reducible refine w_eqlL ?_) | (with_reducible refine w_neqL ?_) | (with_reducible refine s_eqlL ?_) | (with_reducible refine ifnt ?_) | (with_reducible refine ifnf ?_) | (with_reducible refine x_eqB ?_) | (with_reducible refine x_neB ?_) | (with_reducible refine x_lssL ?_) | (with_reducible refine x_gtrL ?_) | (with_reducible refine x_geqL ?_) | (with_reducible refine s_neqL ?_) | (with_reducible refine St.load h ?_) | (with_reducible refine St.loadS h ?_) | (with_reducible refine a_fld0 ?_) | (with_reducible refine St.store h fun W h => ?_) | (with_reducible refine St.storeS h fun W h => ?_) | (with_reducible refine St.alloc h fun b W h => ?_) | (with_reducible refine St.allocS h fun b W h => ?_) | (with_reducible refine a_nil ?_) | (with_reducible refine ss_load ?_) | (with_reducible refine ss_loadS ?_) | (with_reducible refine ss_eqb ?_)))
    refine read_spec (v := v) (s := o.name) h (by omega) (by omega) fun zs1 a W hz1 oa h => ?_
    replace h := upX (v := xv) h hz1
    (repeat (first | (with_reducible refine ift ?_) | (with_reducible refine iff' ?_) | (with_reducible refine a_lss ?_) | (with_reducible refine a_leq ?_) | (with_reducible refine a_gtr ?_) | (with_reducible refine a_geq ?_) | (with_reducible refine w_eql ?_) | (with_reducible refine w_neq ?_) | (with_reducible refine s_eql ?_) | (with_reducible refine s_neq ?_) | ((with_reducible refine a_add64 ?h0 ?h1 ?_); (case h0 => omega); (case h1 => omega);  skip) | ((with_reducible refine a_sub64 ?h0 ?h1 ?_); (case h0 => omega); (case h1 => omega);  skip) | ((with_reducible refine a_mul64 ?h0 ?h1 ?_); (case h0 => omega); (case h1 => omega);  skip) | (with_reducible refine a_notd ?_) | (with_reducible refine a_not ?_) | (with_reducible refine a_ext0 ?_) | (with_reducible refine a_ext1 ?_) | (with_reducible refine a_ext2 ?_) | (with_reducible refine x_len ?_) | (with_reducible refine x_lens ?_) | (with_reducible refine x_eqb ?_) | (with_reducible refine x_neb ?_) | (with_reducible refine x_nilP ?_) | (with_reducible refine x_nilPn ?_) | (with_reducible refine x_nilF ?_) | (with_reducible refine x_nilFF ?_) | (with_reducible refine w_eqlL ?_) | (with_reducible refine w_neqL ?_) | (with_reducible refine s_eqlL ?_) | (with_reducible refine ifnt ?_) | (with_reducible refine ifnf ?_) | (with_reducible refine x_eqB ?_) | (with_reducible refine x_neB ?_) | (with_reducible refine x_lssL ?_) | (with_reducible refine x_gtrL ?_) | (with_reducible refine x_geqL ?_) | (with_reducible refine s_neqL ?_) | (with_reducible refine St.load h ?_) | (with_reducible refine St.loadS h ?_) | (with_reducible refine a_fld0 ?_) | (with_reducible refine St.store h fun W h => ?_) | (with_reducible refine St.storeS h fun W h => ?_) | (with_reducible refine St.alloc h fun b W h => ?_) | (with_reducible refine St.allocS h fun b W h => ?_) | (with_reducible refine a_nil ?_) | (with_reducible refine ss_load ?_) | (with_reducible refine ss_loadS ?_) | (with_reducible refine ss_eqb ?_)))
    refine readx_spec (v := xv) (s := o.name) h (by omega) (by omega) fun zs2 y W hz2 oy h => ?_
    replace h := upD (v := v) h hz2
    obtain ⟨e1, e2, e3⟩ := readP_sim hsim o.name
    rw [e1] at h ⊢
    generalize hr : d.readP o.name = r at *
    (repeat (first | (with_reducible refine ift ?_) | (with_reducible refine iff' ?_) | (with_reducible refine a_lss ?_) | (with_reducible refine a_leq ?_) | (with_reducible refine a_gtr ?_) | (with_reducible refine a_geq ?_) | (with_reducible refine w_eql ?_) | (with_reducible refine w_neq ?_) | (with_reducible refine s_eql ?_) | (with_reducible refine s_neq ?_) | ((with_reducible refine a_add64 ?h0 ?h1 ?_); (case h0 => omega); (case h1 => omega);  skip) | ((with_reducible refine a_sub64 ?h0 ?h1 ?_); (case h0 => omega); (case h1 => omega);  skip) | ((with_reducible refine a_mul64 ?h0 ?h1 ?_); (case h0 => omega); (case h1 => omega);  skip) | (with_reducible refine a_notd ?_) | (with_reducible refine a_not ?_) | (with_reducible refine a_ext0 ?_) | (with_reducible refine a_ext1 ?_) | (with_reducible refine a_ext2 ?_) | (with_reducible refine x_len ?_) | (with_reducible refine x_lens ?_) | (with_reducible refine x_eqb ?_) | (with_reducible refine x_neb ?_) | (with_reducible refine x_nilP ?_) | (with_reducible refine x_nilPn ?_) | (with_reducible refine x_nilF ?_) | (with_reducible refine x_nilFF ?_) | (with_reducible refine w_eqlL ?_) | (with_reducible refine w_neqL ?_) | (with_reducible refine s_eqlL ?_) | (with_reducible refine ifnt ?_) | (with_reducible refine ifnf ?_) | (with_reducible refine x_eqB ?_) | (with_reducible refine x_neB ?_) | (with_reducible refine x_lssL ?_) | (with_reducible refine x_gtrL ?_) | (with_reducible refine x_geqL ?_) | (with_reducible refine s_neqL ?_) | (with_reducible refine St.load h ?_) | (with_reducible refine St.loadS h ?_) | (with_reducible refine a_fld0 ?_) | (with_reducible refine St.store h fun W h => ?_) | (with_reducible refine St.storeS h fun W h => ?_) | (with_reducible refine St.alloc h fun b W h => ?_) | (with_reducible refine St.allocS h fun b W h => ?_) | (with_reducible refine a_nil ?_) | (with_reducible refine ss_load ?_) | (with_reducible refine ss_loadS ?_) | (with_reducible refine ss_eqb ?_)))
    have hrl : r.2.1.length ≤ 1073741824 := by
      have hV := (dkV (v := v) h).1
      have := gt_le (k := o.name) hV.now.srt
      have := hV.now.tot
      rw [← hr]
      have hq : (d.readP o.name).2.1 = [] ∨ (d.readP o.name).2.1 = gt o.name (d.readP o.name).1.now := by
        unfold Dd.readP
        dsimp only
        split
        · exact .inl rfl
        · split
          · exact .inl rfl
          · exact .inr rfl
      rcases hq with hq | hq
      · rw [hq]; simp
      · rw [hq, hr]; omega
    refine jni (fun vs W' => vs = [.bool true, a] ∧ ∃ s' : Txt, s'.length = r.2.1.length ∧ St Wz G0 (Ky a (Ow 5 1 r.2.1.length (bytesV s')) :: Ky v (Dk zs2 r.1) :: Ky xv (Xk zs2 (wp r.1 dx.plan)) :: Ky PoolK.a (Pl zs2) :: []) W') ?_ ?_
    · clear h
      rintro vs W2 _ ⟨rfl, s', hl', h⟩
      refine app2 ?_
      refine upLoop (s := s') (by omega) h hl' ?_
      clear h
      rintro next i s2 W3 hl2 h hi hnext
      refine x_lenS (h.osl (v := a)) ?_
      refine a_lss (ifd (fun hlt => ?_) fun hlt => ?_)
      · have hil : i < r.2.1.length := by omega
        obtain ⟨c, hc0⟩ : ∃ c, s2[i]? = some c := ⟨_, List.getElem?_eq_getElem (by omega)⟩
        refine x_at (h.osl (v := a)) (u := byteV c) (by unfold bytesV; rw [List.getElem?_map, hc0]; rfl) ?_
        refine a_add ?_
        rw [u8_succ]
        refine h.setAt (v := a) hil fun W4 h => ?_
        rw [bytesV_set] at h
        refine a_add64 (by omega) (by omega) ?_
        rw [show ((i : Int) + 1) = ((i + 1 : Nat) : Int) by push_cast; rfl]
        exact ⟨rfl, rfl, hnext _ W4 (by rw [List.length_set]; exact hl2) (by omega) h⟩
      · exact ⟨rfl, fin1 (zs' := zs2) e2 (by omega) (by omega) h⟩
    · refine bytes_spec (l := r.2.1) (m := r.2.1) (h.osl (v := a)) (h.osl (v := y)) ?_
      rw [decide_eq_true rfl]
      refine ift ?_
      refine w_eql ?_
      rw [decide_eq_true rfl]
      exact ⟨rfl, _, rfl, h.to⟩
  refine jni (fun vs W' => vs = [.bool true] ∧ Fin W') ?_ ?_
  · rintro vs W' _ ⟨rfl, hq⟩
    exact app1 ⟨rfl, hq⟩
  refine w_eql (ifd (fun hk => ?_) fun hk => ?_)
  · -- List
    refine list_spec (v := v) h (by omega) fun zs1 a W hz1 oa h => ?_
    replace h := upX (v := xv) h hz1
    (repeat (first | (with_reducible refine ift ?_) | (with_reducible refine iff' ?_) | (with_reducible refine a_lss ?_) | (with_reducible refine a_leq ?_) | (with_reducible refine a_gtr ?_) | (with_reducible refine a_geq ?_) | (with_reducible refine w_eql ?_) | (with_reducible refine w_neq ?_) | (with_reducible refine s_eql ?_) | (with_reducible refine s_neq ?_) | ((with_reducible refine a_add64 ?h0 ?h1 ?_); (case h0 => omega); (case h1 => omega);  skip) | ((with_reducible refine a_sub64 ?h0 ?h1 ?_); (case h0 => omega); (case h1 => omega);  skip) | ((with_reducible refine a_mul64 ?h0 ?h1 ?_); (case h0 => omega); (case h1 => omega);  skip) | (with_reducible refine a_notd ?_) | (with_reducible refine a_not ?_) | (with_reducible refine a_ext0 ?_) | (with_reducible refine a_ext1 ?_) | (with_reducible refine a_ext2 ?_) | (with_reducible refine x_len ?_) | (with_reducible refine x_lens ?_) | (with_reducible refine x_eqb ?_) | (with_reducible refine x_neb ?_) | (with_reducible refine x_nilP ?_) | (with_reducible refine x_nilPn ?_) | (with_reducible refine x_nilF ?_) | (with_reducible refine x_nilFF ?_) | (with_reducible refine w_eqlL ?_) | (with_reducible refine w_neqL ?_) | (with_reducible refine s_eqlL ?_) | (with_reducible refine ifnt ?_) | (with_reducible refine ifnf ?_) | (with_reducible refine x_eqB ?_) | (with_reducible refine x_neB ?_) | (with_reducible refine x_lssL ?_) | (with_reducible refine x_gtrL ?_) | (with_reducible refine x_geqL ?_) | (with_reducible refine s_neqL ?_) | (with_reducible refine St.load h ?_) | (with_reducible refine St.loadS h ?_) | (with_reducible refine a_fld0 ?_) | (with_reducible refine St.store h fun W h => ?_) | (with_reducible refine St.storeS h fun W h => ?_) | (with_reducible refine St.alloc h fun b W h => ?_) | (with_reducible refine St.allocS h fun b W h => ?_) | (with_reducible refine a_nil ?_) | (with_reducible refine ss_load ?_) | (with_reducible refine ss_loadS ?_) | (with_reducible refine ss_eqb ?_)))
    refine listx_spec (v := xv) h (by omega) fun zs2 y W hz2 oy h => ?_
    replace h := upD (v := v) h hz2
    obtain ⟨e1, e2, e3⟩ := listP_sim hsim
    rw [e1] at h ⊢
    generalize hr : d.listP = r at *
    (repeat (first | (with_reducible refine ift ?_) | (with_reducible refine iff' ?_) | (with_reducible refine a_lss ?_) | (with_reducible refine a_leq ?_) | (with_reducible refine a_gtr ?_) | (with_reducible refine a_geq ?_) | (with_reducible refine w_eql ?_) | (with_reducible refine w_neq ?_) | (with_reducible refine s_eql ?_) | (with_reducible refine s_neq ?_) | ((with_reducible refine a_add64 ?h0 ?h1 ?_); (case h0 => omega); (case h1 => omega);  skip) | ((with_reducible refine a_sub64 ?h0 ?h1 ?_); (case h0 => omega); (case h1 => omega);  skip) | ((with_reducible refine a_mul64 ?h0 ?h1 ?_); (case h0 => omega); (case h1 => omega);  skip) | (with_reducible refine a_notd ?_) | (with_reducible refine a_not ?_) | (with_reducible refine a_ext0 ?_) | (with_reducible refine a_ext1 ?_) | (with_reducible refine a_ext2 ?_) | (with_reducible refine x_len ?_) | (with_reducible refine x_lens ?_) | (with_reducible refine x_eqb ?_) | (with_reducible refine x_neb ?_) | (with_reducible refine x_nilP ?_) | (with_reducible refine x_nilPn ?_) | (with_reducible refine x_nilF ?_) | (with_reducible refine x_nilFF ?_) | (with_reducible refine w_eqlL ?_) | (with_reducible refine w_neqL ?_) | (with_reducible refine s_eqlL ?_) | (with_reducible refine ifnt ?_) | (with_reducible refine ifnf ?_) | (with_reducible refine x_eqB ?_) | (with_reducible refine x_neB ?_) | (with_reducible refine x_lssL ?_) | (with_reducible refine x_gtrL ?_) | (with_reducible refine x_geqL ?_) | (with_reducible refine s_neqL ?_) | (with_reducible refine St.load h ?_) | (with_reducible refine St.loadS h ?_) | (with_reducible refine a_fld0 ?_) | (with_reducible refine St.store h fun W h => ?_) | (with_reducible refine St.storeS h fun W h => ?_) | (with_reducible refine St.alloc h fun b W h => ?_) | (with_reducible refine St.allocS h fun b W h => ?_) | (with_reducible refine a_nil ?_) | (with_reducible refine ss_load ?_) | (with_reducible refine ss_loadS ?_) | (with_reducible refine ss_eqb ?_)))
    refine jni (fun vs W' => vs = [.bool true] ∧ Fin W') ?_ ?_
    · rintro vs W' _ ⟨rfl, hq⟩
      exact app1 ⟨rfl, hq⟩
    have hV := (dkV (v := v) h).1
    have hll : r.2.1.length ≤ 1000000000 := by
      have := hV.lenN
      have hq : d.listP.2.1 = [] ∨ d.listP.2.1 = d.listP.1.now.map Prod.fst := by
        unfold Dd.listP
        dsimp only
        split
        · exact .inl rfl
        · exact .inr rfl
      rw [hr] at hq
      rcases hq with hq | hq
      · rw [hq]; simp
      · rw [hq, List.length_map]; omega
    refine texts_spec (a := r.2.1) (b := r.2.1) (h.osl (v := a)) (h.osl (v := y)) hll fun W hb5 => ?_
    replace h := h.ext hb5
    rw [decide_eq_true rfl]
    refine ift ?_
    refine w_eql ?_
    rw [decide_eq_true rfl]
    exact ⟨rfl, fin1 (zs' := zs2) e2 (by omega) (by omega) h⟩
  refine jni (fun vs W' => vs = [.bool true] ∧ Fin W') ?_ ?_
  · rintro vs W' _ ⟨rfl, hq⟩
    exact app1 ⟨rfl, hq⟩
  refine w_eql (ifd (fun hk => ?_) fun hk => ?_)
  · -- Append
    (repeat (first | (with_reducible refine ift ?_) | (with_reducible refine iff' ?_) | (with_reducible refine a_lss ?_) | (with_reducible refine a_leq ?_) | (with_reducible refine a_gtr ?_) | (with_reducible refine a_geq ?_) | (with_reducible refine w_eql ?_) | (with_reducible refine w_neq ?_) | (with_reducible refine s_eql ?_) | (with_reducible refine s_neq ?_) | ((with_reducible refine a_add64 ?h0 ?h1 ?_); (case h0 => omega); (case h1 => omega);  skip) | ((with_reducible refine a_sub64 ?h0 ?h1 ?_); (case h0 => omega); (case h1 => omega);  skip) | ((with_reducible refine a_mul64 ?h0 ?h1 ?_); (case h0 => omega); (case h1 => omega);  skip) | (with_reducible refine a_notd ?_) | (with_reducible refine a_not ?_) | (with_reducible refine a_ext0 ?_) | (with_reducible refine a_ext1 ?_) | (with_reducible refine a_ext2 ?_) | (with_reducible refine x_len ?_) | (with_reducible refine x_lens ?_) | (with_reducible refine x_eqb ?_) | (with_reducible refine x_neb ?_) | (with_reducible refine x_nilP ?_) | (with_reducible refine x_nilPn ?_) | (with_reducible refine x_nilF ?_) | (with_reducible refine x_nilFF ?_) | (with_reducible refine w_eqlL ?_) | (with_reducible refine w_neqL ?_) | (with_reducible refine s_eqlL ?_) | (with_reducible refine ifnt ?_) | (with_reducible refine ifnf ?_) | (with_reducible refine x_eqB ?_) | (with_reducible refine x_neB ?_) | (with_reducible refine x_lssL ?_) | (with_reducible refine x_gtrL ?_) | (with_reducible refine x_geqL ?_) | (with_reducible refine s_neqL ?_) | (with_reducible refine St.load h ?_) | (with_reducible refine St.loadS h ?_) | (with_reducible refine a_fld0 ?_) | (with_reducible refine St.store h fun W h => ?_) | (with_reducible refine St.storeS h fun W h => ?_) | (with_reducible refine St.alloc h fun b W h => ?_) | (with_reducible refine St.allocS h fun b W h => ?_) | (with_reducible refine a_nil ?_) | (with_reducible refine ss_load ?_) | (with_reducible refine ss_loadS ?_) | (with_reducible refine ss_eqb ?_)))
    refine copyBytes_spec (Sl.below hF.bytes h.low) (by omega) fun a W g1 g2 => ?_
    replace h := h.take g2 g1
    have oa : Cel1 a := .of_own g1
    replace h := h.drew
    have h2 : St Wz G0 (Ky bx (Ob (.cells [.int .i64 o.kind, .int .i64 o.a, .int .i64 o.b, strV o.name, strV o.to, svV o.bv, svV o.ev].toArray 32 (0, 0))) :: Ky a (BO o.bytes) :: Ky v (Dk zs d) :: Ky xv (Xk zs dx) :: Ky PoolK.a (Pl zs) :: []) W.drew := h.to
    clear h
    have h := h2
    clear h2
    refine ⟨fun w => Rec w bx 32 [.int .i64 o.kind, .int .i64 o.a, .int .i64 o.b, strV o.name, strV o.to, svV o.bv, svV o.ev], h.rc, ?_⟩
    refine a_fld0 (s_ld (fun w hw => hw) rfl (a_fld0 (s_ld (fun w hw => hw) rfl (a_fld0 (s_ld (fun w hw => hw) rfl ?_)))))
    refine append_specG (v := v) (s := o.name) (b := o.bytes) h (by omega) (by omega) (fun zs' W' hz h => h.osl (v := a)) (by omega) fun zs1 W hz1 h => ?_
    replace h := upX (v := xv) h hz1
    refine ⟨h.rc, ?_⟩
    refine appendx_spec (v := xv) (s := o.name) (b := o.bytes) h (by omega) (by omega) hF.bytes (by omega) fun zs2 W hz2 h => ?_
    replace h := upD (v := v) h hz2
    obtain ⟨e1, e2⟩ := appendP_sim hsim o.name o.bytes
    have e3 := appendP_calls d o.name o.bytes
    rw [e1] at h ⊢
    generalize d.appendP o.name o.bytes = r at *
    refine ⟨h.rc, ?_⟩
    refine s_eql ?_
    rw [decide_eq_true rfl]
    have h2 : St Wz G0 (Ky a (BO o.bytes) :: Ky v (Dk zs2 r.1) :: Ky xv (Xk zs2 (wp r.1 dx.plan)) :: Ky PoolK.a (Pl zs2) :: []) W := h.to
    clear h
    refine upLoop (s := o.bytes) (by omega) h2 rfl ?_
    clear h2
    rintro next i s2 W3 hl2 h hi hnext
    refine x_lenS (h.osl (v := a)) ?_
    refine a_lss (ifd (fun hlt => ?_) fun hlt => ?_)
    · have hil : i < o.bytes.length := by omega
      obtain ⟨c, hc0⟩ : ∃ c, s2[i]? = some c := ⟨_, List.getElem?_eq_getElem (by omega)⟩
      refine x_at (h.osl (v := a)) (u := byteV c) (by unfold bytesV; rw [List.getElem?_map, hc0]; rfl) ?_
      refine a_add ?_
      rw [u8_succ]
      refine h.setAt (v := a) hil fun W4 h => ?_
      rw [bytesV_set] at h
      refine a_add64 (by omega) (by omega) ?_
      rw [show ((i : Int) + 1) = ((i + 1 : Nat) : Int) by push_cast; rfl]
      exact ⟨rfl, rfl, hnext _ W4 (by rw [List.length_set]; exact hl2) (by omega) h⟩
    · exact ⟨rfl, fin1 (zs' := zs2) e2 (by omega) (by omega) h⟩
  refine jni (fun vs W' => vs = [.bool true] ∧ Fin W') ?_ ?_
  · rintro vs W' _ ⟨rfl, hq⟩
    exact app1 ⟨rfl, hq⟩
  refine w_eql (ifd (fun hk => ?_) fun hk => ?_)
  · -- Cut
    replace h := h.drew
    refine ⟨fun w => Rec w bx 32 [.int .i64 o.kind, .int .i64 o.a, .int .i64 o.b, strV o.name, strV o.to, svV o.bv, svV o.ev], h.rc, ?_⟩
    refine a_fld0 (s_ld (fun w hw => hw) rfl (a_fld0 (s_ld (fun w hw => hw) rfl (a_fld0 (s_ld (fun w hw => hw) rfl (a_fld0 (s_ld (fun w hw => hw) rfl ?_)))))))
    refine cut_spec (v := v) (s := o.name) h (by omega) (by omega) fun zs1 W hz1 h => ?_
    replace h := upX (v := xv) h hz1
    refine ⟨h.rc, ?_⟩
    refine cutx_spec (v := xv) (s := o.name) h (by omega) (by omega) fun zs2 W hz2 h => ?_
    replace h := upD (v := v) h hz2
    obtain ⟨e1, e2⟩ := cutP_sim hsim o.name o.a
    have e3 := cutP_calls d o.name o.a
    rw [e1] at h ⊢
    generalize d.cutP o.name o.a = r at *
    refine ⟨h.rc, ?_⟩
    refine s_eql ?_
    rw [decide_eq_true rfl]
    exact ⟨rfl, fin1 (zs' := zs2) e2 (by omega) (by omega) h⟩
  refine jni (fun vs W' => vs = [.bool true] ∧ Fin W') ?_ ?_
  · rintro vs W' _ ⟨rfl, hq⟩
    exact app1 ⟨rfl, hq⟩
  refine w_eql (ifd (fun hk => ?_) fun hk => ?_)
  · -- Rename
    replace h := h.drew
    refine ⟨fun w => Rec w bx 32 [.int .i64 o.kind, .int .i64 o.a, .int .i64 o.b, strV o.name, strV o.to, svV o.bv, svV o.ev], h.rc, ?_⟩
    refine a_fld0 (s_ld (fun w hw => hw) rfl (a_fld0 (s_ld (fun w hw => hw) rfl (a_fld0 (s_ld (fun w hw => hw) rfl (a_fld0 (s_ld (fun w hw => hw) rfl ?_)))))))
    refine rename_spec (v := v) (s := o.name) (t := o.to) h (by omega) (by omega) (by omega) fun zs1 W hz1 h => ?_
    replace h := upX (v := xv) h hz1
    refine ⟨h.rc, ?_⟩
    refine renamex_spec (v := xv) (s := o.name) (t := o.to) h (by omega) (by omega) (by omega) fun zs2 W hz2 h => ?_
    replace h := upD (v := v) h hz2
    obtain ⟨e1, e2⟩ := renameP_sim hsim o.name o.to
    have e3 := renameP_calls d o.name o.to
    rw [e1] at h ⊢
    generalize d.renameP o.name o.to = r at *
    refine ⟨h.rc, ?_⟩
    refine s_eql ?_
    rw [decide_eq_true rfl]
    exact ⟨rfl, fin1 (zs' := zs2) e2 (by omega) (by omega) h⟩
  refine jni (fun vs W' => vs = [.bool true] ∧ Fin W') ?_ ?_
  · rintro vs W' _ ⟨rfl, hq⟩
    exact app1 ⟨rfl, hq⟩
  refine w_eql (ifd (fun hk => ?_) fun hk => ?_)
  · -- Delete
    replace h := h.drew
    refine ⟨fun w => Rec w bx 32 [.int .i64 o.kind, .int .i64 o.a, .int .i64 o.b, strV o.name, strV o.to, svV o.bv, svV o.ev], h.rc, ?_⟩
    refine a_fld0 (s_ld (fun w hw => hw) rfl (a_fld0 (s_ld (fun w hw => hw) rfl ?_)))
    refine delete_spec (v := v) (s := o.name) h (by omega) (by omega) fun zs1 W hz1 h => ?_
    replace h := upX (v := xv) h hz1
    refine ⟨h.rc, ?_⟩
    refine deletex_spec (v := xv) (s := o.name) h (by omega) (by omega) fun zs2 W hz2 h => ?_
    replace h := upD (v := v) h hz2
    obtain ⟨e1, e2⟩ := deleteP_sim hsim o.name
    have e3 := deleteP_calls d o.name
    rw [e1] at h ⊢
    generalize d.deleteP o.name = r at *
    refine ⟨h.rc, ?_⟩
    refine s_eql ?_
    rw [decide_eq_true rfl]
    exact ⟨rfl, fin1 (zs' := zs2) e2 (by omega) (by omega) h⟩
  refine jni (fun vs W' => vs = [.bool true] ∧ Fin W') ?_ ?_
  · rintro vs W' _ ⟨rfl, hq⟩
    exact app1 ⟨rfl, hq⟩
  refine w_eql (ifd (fun hk => ?_) fun hk => ?_)
  · -- Sync
    refine sync_spec (v := v) h (by omega) fun zs1 W hz1 h => ?_
    replace h := upX (v := xv) h hz1
    refine syncx_spec (v := xv) h (by omega) fun zs2 W hz2 h => ?_
    replace h := upD (v := v) h hz2
    obtain ⟨e1, e2⟩ := syncP_sim hsim
    have e3 := syncP_calls d
    rw [e1] at h ⊢
    generalize d.syncP = r at *
    refine w_eql ?_
    rw [decide_eq_true rfl]
    exact ⟨rfl, fin1 (zs' := zs2) e2 (by omega) (by omega) h⟩
  refine jni (fun vs W' => vs = [.bool true] ∧ Fin W') ?_ ?_
  · rintro vs W' _ ⟨rfl, hq⟩
    exact app1 ⟨rfl, hq⟩
  refine w_eql (ifd (fun hk => ?_) fun hk => ?_)
  · -- Crash
    (repeat (first | (with_reducible refine ift ?_) | (with_reducible refine iff' ?_) | (with_reducible refine a_lss ?_) | (with_reducible refine a_leq ?_) | (with_reducible refine a_gtr ?_) | (with_reducible refine a_geq ?_) | (with_reducible refine w_eql ?_) | (with_reducible refine w_neq ?_) | (with_reducible refine s_eql ?_) | (with_reducible refine s_neq ?_) | ((with_reducible refine a_add64 ?h0 ?h1 ?_); (case h0 => omega); (case h1 => omega);  skip) | ((with_reducible refine a_sub64 ?h0 ?h1 ?_); (case h0 => omega); (case h1 => omega);  skip) | ((with_reducible refine a_mul64 ?h0 ?h1 ?_); (case h0 => omega); (case h1 => omega);  skip) | (with_reducible refine a_notd ?_) | (with_reducible refine a_not ?_) | (with_reducible refine a_ext0 ?_) | (with_reducible refine a_ext1 ?_) | (with_reducible refine a_ext2 ?_) | (with_reducible refine x_len ?_) | (with_reducible refine x_lens ?_) | (with_reducible refine x_eqb ?_) | (with_reducible refine x_neb ?_) | (with_reducible refine x_nilP ?_) | (with_reducible refine x_nilPn ?_) | (with_reducible refine x_nilF ?_) | (with_reducible refine x_nilFF ?_) | (with_reducible refine w_eqlL ?_) | (with_reducible refine w_neqL ?_) | (with_reducible refine s_eqlL ?_) | (with_reducible refine ifnt ?_) | (with_reducible refine ifnf ?_) | (with_reducible refine x_eqB ?_) | (with_reducible refine x_neB ?_) | (with_reducible refine x_lssL ?_) | (with_reducible refine x_gtrL ?_) | (with_reducible refine x_geqL ?_) | (with_reducible refine s_neqL ?_) | (with_reducible refine St.load h ?_) | (with_reducible refine St.loadS h ?_) | (with_reducible refine a_fld0 ?_) | (with_reducible refine St.store h fun W h => ?_) | (with_reducible refine St.storeS h fun W h => ?_) | (with_reducible refine St.alloc h fun b W h => ?_) | (with_reducible refine St.allocS h fun b W h => ?_) | (with_reducible refine a_nil ?_) | (with_reducible refine ss_load ?_) | (with_reducible refine ss_loadS ?_) | (with_reducible refine ss_eqb ?_)))
    obtain ⟨ev, oe, h⟩ := openD (v := v) h
    refine crash_spec (v := v) (keep := o.a) (torn := o.b) h fun zs1 W hz1 h => ?_
    replace h := shutD (v := v) h
    replace h := upX (v := xv) h hz1
    (repeat (first | (with_reducible refine ift ?_) | (with_reducible refine iff' ?_) | (with_reducible refine a_lss ?_) | (with_reducible refine a_leq ?_) | (with_reducible refine a_gtr ?_) | (with_reducible refine a_geq ?_) | (with_reducible refine w_eql ?_) | (with_reducible refine w_neq ?_) | (with_reducible refine s_eql ?_) | (with_reducible refine s_neq ?_) | ((with_reducible refine a_add64 ?h0 ?h1 ?_); (case h0 => omega); (case h1 => omega);  skip) | ((with_reducible refine a_sub64 ?h0 ?h1 ?_); (case h0 => omega); (case h1 => omega);  skip) | ((with_reducible refine a_mul64 ?h0 ?h1 ?_); (case h0 => omega); (case h1 => omega);  skip) | (with_reducible refine a_notd ?_) | (with_reducible refine a_not ?_) | (with_reducible refine a_ext0 ?_) | (with_reducible refine a_ext1 ?_) | (with_reducible refine a_ext2 ?_) | (with_reducible refine x_len ?_) | (with_reducible refine x_lens ?_) | (with_reducible refine x_eqb ?_) | (with_reducible refine x_neb ?_) | (with_reducible refine x_nilP ?_) | (with_reducible refine x_nilPn ?_) | (with_reducible refine x_nilF ?_) | (with_reducible refine x_nilFF ?_) | (with_reducible refine w_eqlL ?_) | (with_reducible refine w_neqL ?_) | (with_reducible refine s_eqlL ?_) | (with_reducible refine ifnt ?_) | (with_reducible refine ifnf ?_) | (with_reducible refine x_eqB ?_) | (with_reducible refine x_neB ?_) | (with_reducible refine x_lssL ?_) | (with_reducible refine x_gtrL ?_) | (with_reducible refine x_geqL ?_) | (with_reducible refine s_neqL ?_) | (with_reducible refine St.load h ?_) | (with_reducible refine St.loadS h ?_) | (with_reducible refine a_fld0 ?_) | (with_reducible refine St.store h fun W h => ?_) | (with_reducible refine St.storeS h fun W h => ?_) | (with_reducible refine St.alloc h fun b W h => ?_) | (with_reducible refine St.allocS h fun b W h => ?_) | (with_reducible refine a_nil ?_) | (with_reducible refine ss_load ?_) | (with_reducible refine ss_loadS ?_) | (with_reducible refine ss_eqb ?_)))
    refine crashx_spec (v := xv) (keep := o.a) (torn := o.b) h (by omega) fun zs2 W hz2 h => ?_
    replace h := upD (v := v) h hz2
    obtain ⟨e1, e2, _⟩ := crash_calls d o.a o.b
    have e3 : dx.crash o.a o.b = wp (d.crash o.a o.b) dx.plan := by
      conv => lhs; rw [hsim.eq, crash_wp]
    rw [e3] at h
    exact ⟨rfl, fin1 (zs' := zs2) e2 (by omega) (by omega) h⟩
  refine jni (fun vs W' => vs = [.bool true] ∧ Fin W') ?_ ?_
  · rintro vs W' _ ⟨rfl, hq⟩
    exact app1 ⟨rfl, hq⟩
  refine w_eql (ifd (fun hk => ?_) fun hk => ?_)
  · -- Reboot
    refine reboot_spec (v := v) h fun W h => ?_
    refine rebootx_spec (v := xv) h fun W h => ?_
    have e3 : Dd.reboot dx = wp (Dd.reboot d) dx.plan := by
      conv => lhs; rw [hsim.eq]
      rfl
    rw [e3] at h
    exact ⟨rfl, fin1 (zs' := zs) (d' := Dd.reboot d) rfl (Nat.le_refl _) (Nat.le_succ _) h⟩
  refine jni (fun vs W' => vs = [.bool true] ∧ Fin W') ?_ ?_
  · rintro vs W' _ ⟨rfl, hq⟩
    exact app1 ⟨rfl, hq⟩
  refine w_eql (ifd (fun hk => ?_) fun hk => ?_)
  · -- Plan
    refine h.lit (vs := []) (cs := []) (fun u W ou h => ?_) (by decide)
    refine a_fld0 (h.load ?_)
    refine h.app (v := u) (h.sl0 hF.events) (evC_one o.events) (by unfold maxLen; omega) (by omega) fun a W oa h _ => ?_
    rw [Nat.zero_add, List.nil_append] at h
    refine plan_spec (v := v) (es := o.events) h (h.osl (v := a)) (by omega) fun W h => ?_
    (repeat (first | (with_reducible refine ift ?_) | (with_reducible refine iff' ?_) | (with_reducible refine a_lss ?_) | (with_reducible refine a_leq ?_) | (with_reducible refine a_gtr ?_) | (with_reducible refine a_geq ?_) | (with_reducible refine w_eql ?_) | (with_reducible refine w_neq ?_) | (with_reducible refine s_eql ?_) | (with_reducible refine s_neq ?_) | ((with_reducible refine a_add64 ?h0 ?h1 ?_); (case h0 => omega); (case h1 => omega);  skip) | ((with_reducible refine a_sub64 ?h0 ?h1 ?_); (case h0 => omega); (case h1 => omega);  skip) | ((with_reducible refine a_mul64 ?h0 ?h1 ?_); (case h0 => omega); (case h1 => omega);  skip) | (with_reducible refine a_notd ?_) | (with_reducible refine a_not ?_) | (with_reducible refine a_ext0 ?_) | (with_reducible refine a_ext1 ?_) | (with_reducible refine a_ext2 ?_) | (with_reducible refine x_len ?_) | (with_reducible refine x_lens ?_) | (with_reducible refine x_eqb ?_) | (with_reducible refine x_neb ?_) | (with_reducible refine x_nilP ?_) | (with_reducible refine x_nilPn ?_) | (with_reducible refine x_nilF ?_) | (with_reducible refine x_nilFF ?_) | (with_reducible refine w_eqlL ?_) | (with_reducible refine w_neqL ?_) | (with_reducible refine s_eqlL ?_) | (with_reducible refine ifnt ?_) | (with_reducible refine ifnf ?_) | (with_reducible refine x_eqB ?_) | (with_reducible refine x_neB ?_) | (with_reducible refine x_lssL ?_) | (with_reducible refine x_gtrL ?_) | (with_reducible refine x_geqL ?_) | (with_reducible refine s_neqL ?_) | (with_reducible refine St.load h ?_) | (with_reducible refine St.loadS h ?_) | (with_reducible refine a_fld0 ?_) | (with_reducible refine St.store h fun W h => ?_) | (with_reducible refine St.storeS h fun W h => ?_) | (with_reducible refine St.alloc h fun b W h => ?_) | (with_reducible refine St.allocS h fun b W h => ?_) | (with_reducible refine a_nil ?_) | (with_reducible refine ss_load ?_) | (with_reducible refine ss_loadS ?_) | (with_reducible refine ss_eqb ?_)))
    refine plain_spec (es := o.events) (h.sl0 hF.events) (by omega) fun y W oy h2 => ?_
    replace h := h.frame1 h2
    refine planx_spec (v := xv) (a := y) (es := o.events) h (by omega) fun W h => ?_
    have hsp : Sim (Dd.setPlan d o.events) (Dd.setPlan dx (evF dx.calls o.events)) := by rw [hcx]; exact sim_plan hsim o.events
    have h2 : St Wz G0 (Ky a (Ow 76 4 o.events.length (rcells evC o.events)) :: Ky v (Dk zs (Dd.setPlan d o.events)) :: Ky xv (Xk zs (Dd.setPlan dx (evF dx.calls o.events))) :: Ky PoolK.a (Pl zs) :: []) W := h.to
    clear h
    refine lpx (α := Nat) (fun i => [nV .i64 i]) (fun i W' => i ≤ o.events.length ∧ ∃ xs, St Wz G0 (Ky a (Ow 76 4 o.events.length xs) :: Ky v (Dk zs (Dd.setPlan d o.events)) :: Ky xv (Xk zs (Dd.setPlan dx (evF dx.calls o.events))) :: Ky PoolK.a (Pl zs) :: []) W') (fun i => o.events.length - i) 0 (fun _ => rfl) rfl ⟨Nat.zero_le _, _, h2⟩ ?_
    clear h2
    rintro next i W hnext ⟨hi, xs, h⟩
    refine app1 ?_
    refine x_lenS (h.osl (v := a)) ?_
    refine a_lss (ifd (fun hlt => ?_) fun hlt => ?_)
    · have hil : i < o.events.length := by omega
      refine calls_spec (freezeD (v := v) h) ?_
      have hcs : (Dd.setPlan d o.events).calls = d.calls := rfl
      refine a_add64 (by omega) (by omega) ?_
      refine h.setI (v := a) (xs := xs) hil fun g cap ha _ => ?_
      subst ha
      refine a_fld ?_
      refine h.storeI (e := 76) (sz := 4) (xs := xs) (cap := cap) (n := o.events.length) (by omega) fun W h => ?_
      refine a_add64 (by omega) (by omega) ?_
      rw [show ((i : Int) + 1) = ((i + 1 : Nat) : Int) by push_cast; rfl]
      exact ⟨rfl, rfl, rfl, hnext (i + 1) W (by omega) ⟨by omega, _, h⟩⟩
    · exact ⟨rfl, zs, _, _, hsp, Nat.le_succ _, h.to⟩
  refine jni (fun vs W' => vs = [.bool true] ∧ Fin W') ?_ ?_
  · rintro vs W' _ ⟨rfl, hq⟩
    exact app1 ⟨rfl, hq⟩
  refine w_eql (ifd (fun hk => ?_) fun hk => ?_)
  · -- Resize
    replace h := h.drew
    refine ⟨fun w => Rec w bx 32 [.int .i64 o.kind, .int .i64 o.a, .int .i64 o.b, strV o.name, strV o.to, svV o.bv, svV o.ev], h.rc, ?_⟩
    refine a_fld0 (s_ld (fun w hw => hw) rfl (a_fld0 (s_ld (fun w hw => hw) rfl ?_)))
    refine resize_spec (v := v) h fun W h => ?_
    refine ⟨h.rc, ?_⟩
    refine resizex_spec (v := xv) h fun W h => ?_
    refine ⟨h.rc, ?_⟩
    refine ss_eqb ?_
    rw [beq_self_eq_true]
    have e3 : Dd.resize dx o.a = wp (Dd.resize d o.a) dx.plan := by
      conv => lhs; rw [hsim.eq]
      show (if 0 ≤ o.a ∧ o.a ≤ 1073741824 then _ else _) = wp (if 0 ≤ o.a ∧ o.a ≤ 1073741824 then _ else _) _
      split <;> rfl
    have e4 : (Dd.resize d o.a).plan = d.plan ∧ (Dd.resize d o.a).calls = d.calls := by
      unfold Dd.resize
      split <;> exact ⟨rfl, rfl⟩
    rw [e3] at h
    exact ⟨rfl, fin1 (zs' := zs) e4.1 (by omega) (by omega) h⟩
  · exact ⟨rfl, zs, d, dx, hsim, Nat.le_succ _, h.to⟩
/-- Same -/
theorem lsame_spec {bd : Nat} (hsim : Sim d dx) (hc : d.calls ≤ 100000) (hz : DkZ d W (.pointer (some ⟨bd, 0, none⟩))) (hx : XkZ dx W xv) (k : ∀ W', Below W.heap.size W W' → RR (.bool true) W') : CallF Try.prog 34 #[.pointer (some ⟨bd, 0, none⟩), xv] W RR := by
  refine sh34_calls ?_
  unfold sh34
  have hcx : dx.calls = d.calls := by rw [hsim.eq]; rfl
  have hdx : dx.down = d.down := by rw [hsim.eq]; rfl
  have hnx : dx.now = d.now := by rw [hsim.eq]; rfl
  have hV : d.V := by obtain ⟨b, nb, db, pv, ev, E, c, zs, _, hV, _⟩ := hz; exact hV
  have hlen := hV.lenN
  (repeat (first | (with_reducible refine ift ?_) | (with_reducible refine iff' ?_) | (with_reducible refine a_lss ?_) | (with_reducible refine a_leq ?_) | (with_reducible refine a_gtr ?_) | (with_reducible refine a_geq ?_) | (with_reducible refine w_eql ?_) | (with_reducible refine w_neq ?_) | (with_reducible refine s_eql ?_) | (with_reducible refine s_neq ?_) | ((with_reducible refine a_add64 ?h0 ?h1 ?_); (case h0 => omega); (case h1 => omega);  skip) | ((with_reducible refine a_sub64 ?h0 ?h1 ?_); (case h0 => omega); (case h1 => omega);  skip) | ((with_reducible refine a_mul64 ?h0 ?h1 ?_); (case h0 => omega); (case h1 => omega);  skip) | (with_reducible refine a_notd ?_) | (with_reducible refine a_not ?_) | (with_reducible refine a_ext0 ?_) | (with_reducible refine a_ext1 ?_) | (with_reducible refine a_ext2 ?_) | (with_reducible refine x_len ?_) | (with_reducible refine x_lens ?_) | (with_reducible refine x_eqb ?_) | (with_reducible refine x_neb ?_) | (with_reducible refine x_nilP ?_) | (with_reducible refine x_nilPn ?_) | (with_reducible refine x_nilF ?_) | (with_reducible refine x_nilFF ?_) | (with_reducible refine w_eqlL ?_) | (with_reducible refine w_neqL ?_) | (with_reducible refine s_eqlL ?_) | (with_reducible refine ifnt ?_) | (with_reducible refine ifnf ?_) | (with_reducible refine x_eqB ?_) | (with_reducible refine x_neB ?_) | (with_reducible refine x_lssL ?_) | (with_reducible refine x_gtrL ?_) | (with_reducible refine x_geqL ?_) | (with_reducible refine s_neqL ?_) | (with_reducible refine St.load h ?_) | (with_reducible refine St.loadS h ?_) | (with_reducible refine a_fld0 ?_) | (with_reducible refine St.store h fun W h => ?_) | (with_reducible refine St.storeS h fun W h => ?_) | (with_reducible refine St.alloc h fun b W h => ?_) | (with_reducible refine St.allocS h fun b W h => ?_) | (with_reducible refine a_nil ?_) | (with_reducible refine ss_load ?_) | (with_reducible refine ss_loadS ?_) | (with_reducible refine ss_eqb ?_)))
  refine iff' ?_
  refine up_spec hz ?_
  refine upx_spec hx ?_
  rw [hdx]
  refine x_neb ?_
  rw [beq_self_eq_true]
  (repeat (first | (with_reducible refine ift ?_) | (with_reducible refine iff' ?_) | (with_reducible refine a_lss ?_) | (with_reducible refine a_leq ?_) | (with_reducible refine a_gtr ?_) | (with_reducible refine a_geq ?_) | (with_reducible refine w_eql ?_) | (with_reducible refine w_neq ?_) | (with_reducible refine s_eql ?_) | (with_reducible refine s_neq ?_) | ((with_reducible refine a_add64 ?h0 ?h1 ?_); (case h0 => omega); (case h1 => omega);  skip) | ((with_reducible refine a_sub64 ?h0 ?h1 ?_); (case h0 => omega); (case h1 => omega);  skip) | ((with_reducible refine a_mul64 ?h0 ?h1 ?_); (case h0 => omega); (case h1 => omega);  skip) | (with_reducible refine a_notd ?_) | (with_reducible refine a_not ?_) | (with_reducible refine a_ext0 ?_) | (with_reducible refine a_ext1 ?_) | (with_reducible refine a_ext2 ?_) | (with_reducible refine x_len ?_) | (with_reducible refine x_lens ?_) | (with_reducible refine x_eqb ?_) | (with_reducible refine x_neb ?_) | (with_reducible refine x_nilP ?_) | (with_reducible refine x_nilPn ?_) | (with_reducible refine x_nilF ?_) | (with_reducible refine x_nilFF ?_) | (with_reducible refine w_eqlL ?_) | (with_reducible refine w_neqL ?_) | (with_reducible refine s_eqlL ?_) | (with_reducible refine ifnt ?_) | (with_reducible refine ifnf ?_) | (with_reducible refine x_eqB ?_) | (with_reducible refine x_neB ?_) | (with_reducible refine x_lssL ?_) | (with_reducible refine x_gtrL ?_) | (with_reducible refine x_geqL ?_) | (with_reducible refine s_neqL ?_) | (with_reducible refine St.load h ?_) | (with_reducible refine St.loadS h ?_) | (with_reducible refine a_fld0 ?_) | (with_reducible refine St.store h fun W h => ?_) | (with_reducible refine St.storeS h fun W h => ?_) | (with_reducible refine St.alloc h fun b W h => ?_) | (with_reducible refine St.allocS h fun b W h => ?_) | (with_reducible refine a_nil ?_) | (with_reducible refine ss_load ?_) | (with_reducible refine ss_loadS ?_) | (with_reducible refine ss_eqb ?_)))
  refine calls_spec hz ?_
  refine callsx_spec hx ?_
  refine w_neq (ifd_neg (by rw [hcx]; simp) ?_)
  refine used_spec hz fun W1 hb1 => ?_
  replace hz := hz.below hb1
  replace hx := hx.below hb1
  refine usedX_spec hx (by omega) ?_
  rw [hnx]
  refine w_neq (ifd_neg (by simp) ?_)
  refine dnames_spec hz (by omega) fun sv W2 osv h => ?_
  have hb2 := Below.next hb1 h.low
  replace hx := hx.below h.low
  replace hz := hz.below h.low
  refine namesx_spec hx (by omega) fun sv2 W3 osv2 h3 => ?_
  rw [hnx] at h3
  have hb3 := Below.next hb2 h3.low
  replace hx := hx.below h3.low
  replace hz := hz.below h3.low
  have hs1 : Sl W3 1 sv (d.now.map Prod.fst).length ((d.now.map Prod.fst).map strV) := Sl.below (h.osl (v := sv)) h3.low
  refine texts_spec (a := d.now.map Prod.fst) (b := d.now.map Prod.fst) hs1 (h3.osl (v := sv2)) (by rw [List.length_map]; omega) fun W4 hb4 => ?_
  rw [decide_eq_true rfl]
  (repeat (first | (with_reducible refine ift ?_) | (with_reducible refine iff' ?_) | (with_reducible refine a_lss ?_) | (with_reducible refine a_leq ?_) | (with_reducible refine a_gtr ?_) | (with_reducible refine a_geq ?_) | (with_reducible refine w_eql ?_) | (with_reducible refine w_neq ?_) | (with_reducible refine s_eql ?_) | (with_reducible refine s_neq ?_) | ((with_reducible refine a_add64 ?h0 ?h1 ?_); (case h0 => omega); (case h1 => omega);  skip) | ((with_reducible refine a_sub64 ?h0 ?h1 ?_); (case h0 => omega); (case h1 => omega);  skip) | ((with_reducible refine a_mul64 ?h0 ?h1 ?_); (case h0 => omega); (case h1 => omega);  skip) | (with_reducible refine a_notd ?_) | (with_reducible refine a_not ?_) | (with_reducible refine a_ext0 ?_) | (with_reducible refine a_ext1 ?_) | (with_reducible refine a_ext2 ?_) | (with_reducible refine x_len ?_) | (with_reducible refine x_lens ?_) | (with_reducible refine x_eqb ?_) | (with_reducible refine x_neb ?_) | (with_reducible refine x_nilP ?_) | (with_reducible refine x_nilPn ?_) | (with_reducible refine x_nilF ?_) | (with_reducible refine x_nilFF ?_) | (with_reducible refine w_eqlL ?_) | (with_reducible refine w_neqL ?_) | (with_reducible refine s_eqlL ?_) | (with_reducible refine ifnt ?_) | (with_reducible refine ifnf ?_) | (with_reducible refine x_eqB ?_) | (with_reducible refine x_neB ?_) | (with_reducible refine x_lssL ?_) | (with_reducible refine x_gtrL ?_) | (with_reducible refine x_geqL ?_) | (with_reducible refine s_neqL ?_) | (with_reducible refine St.load h ?_) | (with_reducible refine St.loadS h ?_) | (with_reducible refine a_fld0 ?_) | (with_reducible refine St.store h fun W h => ?_) | (with_reducible refine St.storeS h fun W h => ?_) | (with_reducible refine St.alloc h fun b W h => ?_) | (with_reducible refine St.allocS h fun b W h => ?_) | (with_reducible refine a_nil ?_) | (with_reducible refine ss_load ?_) | (with_reducible refine ss_loadS ?_) | (with_reducible refine ss_eqb ?_)))
  have hb5 := Below.next hb3 hb4
  replace hx := hx.below hb4
  replace hz := hz.below hb4
  replace hs1 := hs1.below hb4
  generalize hks : d.now.map Prod.fst = ks at *
  have hkl : ks.length ≤ 1000000000 := by rw [← hks, List.length_map]; omega
  refine lpx (α := Nat) (fun i => [nV .i64 i]) (fun i W' => Below W4.heap.size W4 W' ∧ i ≤ ks.length) (fun i => ks.length - i) 0 (fun _ => rfl) rfl ⟨Below.refl _ _, Nat.zero_le _⟩ ?_
  rintro next i W' hnext ⟨hb, hi⟩
  refine app1 ?_
  refine x_lenS hs1 ?_
  refine a_lss (ifd (fun hc => ?_) fun hc => ?_)
  · have hil : i < ks.length := by omega
    obtain ⟨p, hp⟩ : ∃ p, ks[i]? = some p := ⟨_, List.getElem?_eq_getElem hil⟩
    have hpm : (ks.map strV)[i]? = some (strV p) := by rw [List.getElem?_map, hp]; rfl
    refine x_at (hs1.below hb) (u := strV p) hpm ?_
    refine peek_spec (s := p) (hz.below hb) fun x W6 ox h6 => ?_
    refine a_ext0 (a_ext1 ?_)
    have hb6 := Below.next hb h6.low
    refine x_at (hs1.below hb6) (u := strV p) hpm ?_
    refine peekx_spec (s := p) (hx.below hb6) (by omega) fun y W7 oy h7 => ?_
    rw [hnx] at h7 ⊢
    refine a_ext0 (a_ext1 ?_)
    have hx6 : By W7 x (gt p d.now) := Sl.below (h6.osl (v := x)) h7.low
    refine bytes_spec hx6 (h7.osl (v := y)) ?_
    have hb7 := Below.next hb6 h7.low
    rw [decide_eq_true rfl]
    (repeat (first | (with_reducible refine ift ?_) | (with_reducible refine iff' ?_) | (with_reducible refine a_lss ?_) | (with_reducible refine a_leq ?_) | (with_reducible refine a_gtr ?_) | (with_reducible refine a_geq ?_) | (with_reducible refine w_eql ?_) | (with_reducible refine w_neq ?_) | (with_reducible refine s_eql ?_) | (with_reducible refine s_neq ?_) | ((with_reducible refine a_add64 ?h0 ?h1 ?_); (case h0 => omega); (case h1 => omega);  skip) | ((with_reducible refine a_sub64 ?h0 ?h1 ?_); (case h0 => omega); (case h1 => omega);  skip) | ((with_reducible refine a_mul64 ?h0 ?h1 ?_); (case h0 => omega); (case h1 => omega);  skip) | (with_reducible refine a_notd ?_) | (with_reducible refine a_not ?_) | (with_reducible refine a_ext0 ?_) | (with_reducible refine a_ext1 ?_) | (with_reducible refine a_ext2 ?_) | (with_reducible refine x_len ?_) | (with_reducible refine x_lens ?_) | (with_reducible refine x_eqb ?_) | (with_reducible refine x_neb ?_) | (with_reducible refine x_nilP ?_) | (with_reducible refine x_nilPn ?_) | (with_reducible refine x_nilF ?_) | (with_reducible refine x_nilFF ?_) | (with_reducible refine w_eqlL ?_) | (with_reducible refine w_neqL ?_) | (with_reducible refine s_eqlL ?_) | (with_reducible refine ifnt ?_) | (with_reducible refine ifnf ?_) | (with_reducible refine x_eqB ?_) | (with_reducible refine x_neB ?_) | (with_reducible refine x_lssL ?_) | (with_reducible refine x_gtrL ?_) | (with_reducible refine x_geqL ?_) | (with_reducible refine s_neqL ?_) | (with_reducible refine St.load h ?_) | (with_reducible refine St.loadS h ?_) | (with_reducible refine a_fld0 ?_) | (with_reducible refine St.store h fun W h => ?_) | (with_reducible refine St.storeS h fun W h => ?_) | (with_reducible refine St.alloc h fun b W h => ?_) | (with_reducible refine St.allocS h fun b W h => ?_) | (with_reducible refine a_nil ?_) | (with_reducible refine ss_load ?_) | (with_reducible refine ss_loadS ?_) | (with_reducible refine ss_eqb ?_)))
    rw [beq_self_eq_true]
    (repeat (first | (with_reducible refine ift ?_) | (with_reducible refine iff' ?_) | (with_reducible refine a_lss ?_) | (with_reducible refine a_leq ?_) | (with_reducible refine a_gtr ?_) | (with_reducible refine a_geq ?_) | (with_reducible refine w_eql ?_) | (with_reducible refine w_neq ?_) | (with_reducible refine s_eql ?_) | (with_reducible refine s_neq ?_) | ((with_reducible refine a_add64 ?h0 ?h1 ?_); (case h0 => omega); (case h1 => omega);  skip) | ((with_reducible refine a_sub64 ?h0 ?h1 ?_); (case h0 => omega); (case h1 => omega);  skip) | ((with_reducible refine a_mul64 ?h0 ?h1 ?_); (case h0 => omega); (case h1 => omega);  skip) | (with_reducible refine a_notd ?_) | (with_reducible refine a_not ?_) | (with_reducible refine a_ext0 ?_) | (with_reducible refine a_ext1 ?_) | (with_reducible refine a_ext2 ?_) | (with_reducible refine x_len ?_) | (with_reducible refine x_lens ?_) | (with_reducible refine x_eqb ?_) | (with_reducible refine x_neb ?_) | (with_reducible refine x_nilP ?_) | (with_reducible refine x_nilPn ?_) | (with_reducible refine x_nilF ?_) | (with_reducible refine x_nilFF ?_) | (with_reducible refine w_eqlL ?_) | (with_reducible refine w_neqL ?_) | (with_reducible refine s_eqlL ?_) | (with_reducible refine ifnt ?_) | (with_reducible refine ifnf ?_) | (with_reducible refine x_eqB ?_) | (with_reducible refine x_neB ?_) | (with_reducible refine x_lssL ?_) | (with_reducible refine x_gtrL ?_) | (with_reducible refine x_geqL ?_) | (with_reducible refine s_neqL ?_) | (with_reducible refine St.load h ?_) | (with_reducible refine St.loadS h ?_) | (with_reducible refine a_fld0 ?_) | (with_reducible refine St.store h fun W h => ?_) | (with_reducible refine St.storeS h fun W h => ?_) | (with_reducible refine St.alloc h fun b W h => ?_) | (with_reducible refine St.allocS h fun b W h => ?_) | (with_reducible refine a_nil ?_) | (with_reducible refine ss_load ?_) | (with_reducible refine ss_loadS ?_) | (with_reducible refine ss_eqb ?_)))
    rw [show ((i : Int) + 1) = ((i + 1 : Nat) : Int) by push_cast; rfl]
    exact ⟨rfl, rfl, rfl, hnext (i + 1) W7 (by omega) ⟨hb7, by omega⟩⟩
  · exact k W' (Below.next hb5 hb)
/-- DiskPlays -/
theorem dplays_spec {room : Int} {oa : List OpM} {va : Value} (ha : Sl Wz 7 va oa.length (rcells opC oa)) (hfa : ∀ o ∈ oa, OpF Wz o)
    (k : ∀ W', Below Wz.heap.size Wz W' → RR (.bool true) W') : CallF Try.prog 7 #[.int .i64 room, va] Wz RR := by
  refine sh7_calls ?_
  unfold sh7
  have out : ∀ {W1 : World}, Below Wz.heap.size Wz W1 → CallF Try.prog 8 #[] W1 RR := fun hb1 => first_spec fun W2 hb2 => k W2 (Below.next hb1 hb2)
  refine first_spec fun W1 hb1 => ?_
  (repeat (first | (with_reducible refine ift ?_) | (with_reducible refine iff' ?_) | (with_reducible refine a_lss ?_) | (with_reducible refine a_leq ?_) | (with_reducible refine a_gtr ?_) | (with_reducible refine a_geq ?_) | (with_reducible refine w_eql ?_) | (with_reducible refine w_neq ?_) | (with_reducible refine s_eql ?_) | (with_reducible refine s_neq ?_) | ((with_reducible refine a_add64 ?h0 ?h1 ?_); (case h0 => omega); (case h1 => omega);  skip) | ((with_reducible refine a_sub64 ?h0 ?h1 ?_); (case h0 => omega); (case h1 => omega);  skip) | ((with_reducible refine a_mul64 ?h0 ?h1 ?_); (case h0 => omega); (case h1 => omega);  skip) | (with_reducible refine a_notd ?_) | (with_reducible refine a_not ?_) | (with_reducible refine a_ext0 ?_) | (with_reducible refine a_ext1 ?_) | (with_reducible refine a_ext2 ?_) | (with_reducible refine x_len ?_) | (with_reducible refine x_lens ?_) | (with_reducible refine x_eqb ?_) | (with_reducible refine x_neb ?_) | (with_reducible refine x_nilP ?_) | (with_reducible refine x_nilPn ?_) | (with_reducible refine x_nilF ?_) | (with_reducible refine x_nilFF ?_) | (with_reducible refine w_eqlL ?_) | (with_reducible refine w_neqL ?_) | (with_reducible refine s_eqlL ?_) | (with_reducible refine ifnt ?_) | (with_reducible refine ifnf ?_) | (with_reducible refine x_eqB ?_) | (with_reducible refine x_neB ?_) | (with_reducible refine x_lssL ?_) | (with_reducible refine x_gtrL ?_) | (with_reducible refine x_geqL ?_) | (with_reducible refine s_neqL ?_) | (with_reducible refine St.load h ?_) | (with_reducible refine St.loadS h ?_) | (with_reducible refine a_fld0 ?_) | (with_reducible refine St.store h fun W h => ?_) | (with_reducible refine St.storeS h fun W h => ?_) | (with_reducible refine St.alloc h fun b W h => ?_) | (with_reducible refine St.allocS h fun b W h => ?_) | (with_reducible refine a_nil ?_) | (with_reducible refine ss_load ?_) | (with_reducible refine ss_loadS ?_) | (with_reducible refine ss_eqb ?_)))
  refine few_spec (ha.below hb1) (fun o ho => (hfa o ho).below hb1) fun b0 hs1 => ?_
  refine a_not (ifnb (fun hx => out hb1) fun hx => ?_)
  obtain ⟨hla, hsa⟩ := hs1 hx
  have h := ((St.start Wz).ext hb1).plNil .a
  refine newd_spec [] h (fun hx => ?_) fun h0 h1 bd W2 h => ?_
  · refine a_ext0 (a_ext1 ?_)
    refine newx_spec [] h (fun _ => ?_) fun h0 h1 => absurd ⟨h0, h1⟩ hx
    refine a_ext0 (a_ext1 ?_)
    refine w_neq (ifd_neg (by simp) ?_)
    (repeat (first | (with_reducible refine ift ?_) | (with_reducible refine iff' ?_) | (with_reducible refine a_lss ?_) | (with_reducible refine a_leq ?_) | (with_reducible refine a_gtr ?_) | (with_reducible refine a_geq ?_) | (with_reducible refine w_eql ?_) | (with_reducible refine w_neq ?_) | (with_reducible refine s_eql ?_) | (with_reducible refine s_neq ?_) | ((with_reducible refine a_add64 ?h0 ?h1 ?_); (case h0 => omega); (case h1 => omega);  skip) | ((with_reducible refine a_sub64 ?h0 ?h1 ?_); (case h0 => omega); (case h1 => omega);  skip) | ((with_reducible refine a_mul64 ?h0 ?h1 ?_); (case h0 => omega); (case h1 => omega);  skip) | (with_reducible refine a_notd ?_) | (with_reducible refine a_not ?_) | (with_reducible refine a_ext0 ?_) | (with_reducible refine a_ext1 ?_) | (with_reducible refine a_ext2 ?_) | (with_reducible refine x_len ?_) | (with_reducible refine x_lens ?_) | (with_reducible refine x_eqb ?_) | (with_reducible refine x_neb ?_) | (with_reducible refine x_nilP ?_) | (with_reducible refine x_nilPn ?_) | (with_reducible refine x_nilF ?_) | (with_reducible refine x_nilFF ?_) | (with_reducible refine w_eqlL ?_) | (with_reducible refine w_neqL ?_) | (with_reducible refine s_eqlL ?_) | (with_reducible refine ifnt ?_) | (with_reducible refine ifnf ?_) | (with_reducible refine x_eqB ?_) | (with_reducible refine x_neB ?_) | (with_reducible refine x_lssL ?_) | (with_reducible refine x_gtrL ?_) | (with_reducible refine x_geqL ?_) | (with_reducible refine s_neqL ?_) | (with_reducible refine St.load h ?_) | (with_reducible refine St.loadS h ?_) | (with_reducible refine a_fld0 ?_) | (with_reducible refine St.store h fun W h => ?_) | (with_reducible refine St.storeS h fun W h => ?_) | (with_reducible refine St.alloc h fun b W h => ?_) | (with_reducible refine St.allocS h fun b W h => ?_) | (with_reducible refine a_nil ?_) | (with_reducible refine ss_load ?_) | (with_reducible refine ss_loadS ?_) | (with_reducible refine ss_eqb ?_)))
    refine iff' ?_
    refine jni (fun vs W' => vs = [] ∧ W' = W1) ?_ ?_
    · rintro vs W' _ ⟨rfl, rfl⟩
      exact app0 (out hb1)
    · refine lpx (α := Unit) (fun _ => [.pointer none, nV .i64 0]) (fun _ W' => W' = W1) (fun _ => 0) () (fun _ => rfl) rfl rfl ?_
      rintro next _ W' _ rfl
      refine app2 ?_
      (repeat (first | (with_reducible refine ift ?_) | (with_reducible refine iff' ?_) | (with_reducible refine a_lss ?_) | (with_reducible refine a_leq ?_) | (with_reducible refine a_gtr ?_) | (with_reducible refine a_geq ?_) | (with_reducible refine w_eql ?_) | (with_reducible refine w_neq ?_) | (with_reducible refine s_eql ?_) | (with_reducible refine s_neq ?_) | ((with_reducible refine a_add64 ?h0 ?h1 ?_); (case h0 => omega); (case h1 => omega);  skip) | ((with_reducible refine a_sub64 ?h0 ?h1 ?_); (case h0 => omega); (case h1 => omega);  skip) | ((with_reducible refine a_mul64 ?h0 ?h1 ?_); (case h0 => omega); (case h1 => omega);  skip) | (with_reducible refine a_notd ?_) | (with_reducible refine a_not ?_) | (with_reducible refine a_ext0 ?_) | (with_reducible refine a_ext1 ?_) | (with_reducible refine a_ext2 ?_) | (with_reducible refine x_len ?_) | (with_reducible refine x_lens ?_) | (with_reducible refine x_eqb ?_) | (with_reducible refine x_neb ?_) | (with_reducible refine x_nilP ?_) | (with_reducible refine x_nilPn ?_) | (with_reducible refine x_nilF ?_) | (with_reducible refine x_nilFF ?_) | (with_reducible refine w_eqlL ?_) | (with_reducible refine w_neqL ?_) | (with_reducible refine s_eqlL ?_) | (with_reducible refine ifnt ?_) | (with_reducible refine ifnf ?_) | (with_reducible refine x_eqB ?_) | (with_reducible refine x_neB ?_) | (with_reducible refine x_lssL ?_) | (with_reducible refine x_gtrL ?_) | (with_reducible refine x_geqL ?_) | (with_reducible refine s_neqL ?_) | (with_reducible refine St.load h ?_) | (with_reducible refine St.loadS h ?_) | (with_reducible refine a_fld0 ?_) | (with_reducible refine St.store h fun W h => ?_) | (with_reducible refine St.storeS h fun W h => ?_) | (with_reducible refine St.alloc h fun b W h => ?_) | (with_reducible refine St.allocS h fun b W h => ?_) | (with_reducible refine a_nil ?_) | (with_reducible refine ss_load ?_) | (with_reducible refine ss_loadS ?_) | (with_reducible refine ss_eqb ?_)))
      refine iff' ?_
      exact ⟨rfl, rfl⟩
  refine a_ext0 (a_ext1 ?_)
  refine newx_spec [] h (fun hx => absurd ⟨h0, h1⟩ hx) fun _ _ bxk W3 h => ?_
  refine a_ext0 (a_ext1 ?_)
  refine w_neq (ifd_neg (by simp) ?_)
  (repeat (first | (with_reducible refine ift ?_) | (with_reducible refine iff' ?_) | (with_reducible refine a_lss ?_) | (with_reducible refine a_leq ?_) | (with_reducible refine a_gtr ?_) | (with_reducible refine a_geq ?_) | (with_reducible refine w_eql ?_) | (with_reducible refine w_neq ?_) | (with_reducible refine s_eql ?_) | (with_reducible refine s_neq ?_) | ((with_reducible refine a_add64 ?h0 ?h1 ?_); (case h0 => omega); (case h1 => omega);  skip) | ((with_reducible refine a_sub64 ?h0 ?h1 ?_); (case h0 => omega); (case h1 => omega);  skip) | ((with_reducible refine a_mul64 ?h0 ?h1 ?_); (case h0 => omega); (case h1 => omega);  skip) | (with_reducible refine a_notd ?_) | (with_reducible refine a_not ?_) | (with_reducible refine a_ext0 ?_) | (with_reducible refine a_ext1 ?_) | (with_reducible refine a_ext2 ?_) | (with_reducible refine x_len ?_) | (with_reducible refine x_lens ?_) | (with_reducible refine x_eqb ?_) | (with_reducible refine x_neb ?_) | (with_reducible refine x_nilP ?_) | (with_reducible refine x_nilPn ?_) | (with_reducible refine x_nilF ?_) | (with_reducible refine x_nilFF ?_) | (with_reducible refine w_eqlL ?_) | (with_reducible refine w_neqL ?_) | (with_reducible refine s_eqlL ?_) | (with_reducible refine ifnt ?_) | (with_reducible refine ifnf ?_) | (with_reducible refine x_eqB ?_) | (with_reducible refine x_neB ?_) | (with_reducible refine x_lssL ?_) | (with_reducible refine x_gtrL ?_) | (with_reducible refine x_geqL ?_) | (with_reducible refine s_neqL ?_) | (with_reducible refine St.load h ?_) | (with_reducible refine St.loadS h ?_) | (with_reducible refine a_fld0 ?_) | (with_reducible refine St.store h fun W h => ?_) | (with_reducible refine St.storeS h fun W h => ?_) | (with_reducible refine St.alloc h fun b W h => ?_) | (with_reducible refine St.allocS h fun b W h => ?_) | (with_reducible refine a_nil ?_) | (with_reducible refine ss_load ?_) | (with_reducible refine ss_loadS ?_) | (with_reducible refine ss_eqb ?_)))
  refine iff' ?_
  have c0 : (newD room).calls = 0 := rfl
  have s0 : Sim (newD room) (newD room) := ⟨rfl, fun _ _ => rfl⟩
  generalize newD room = d0 at *
  refine jni (fun vs W' => vs = [] ∧ Below Wz.heap.size Wz W') ?_ ?_
  · rintro vs W' _ ⟨rfl, hb⟩
    exact app0 (out hb)
  refine lpx (α := Nat × Nat) (fun p => [.pointer (some ⟨p.2, 0, none⟩), nV .i64 p.1]) (fun p W' => p.1 ≤ oa.length ∧ ∃ zs d dx, Sim d dx ∧ d.calls ≤ p.1 ∧ St Wz G0 (Ky (.pointer (some ⟨p.2, 0, none⟩) : Value) (Dk zs d) :: Ky (.pointer (some ⟨bxk, 0, none⟩) : Value) (Xk zs dx) :: Ky PoolK.a (Pl zs) :: []) W') (fun p => oa.length - p.1) (0, bd) (fun _ => rfl) rfl ⟨Nat.zero_le _, [], d0, d0, s0, by omega, h.to⟩ ?_
  clear h
  rintro next ⟨i, bq⟩ W hnext ⟨hi, zs, d, dx, hsim, hcl, h⟩
  simp only at hi hcl h
  refine app2 ?_
  (repeat (first | (with_reducible refine ift ?_) | (with_reducible refine iff' ?_) | (with_reducible refine a_lss ?_) | (with_reducible refine a_leq ?_) | (with_reducible refine a_gtr ?_) | (with_reducible refine a_geq ?_) | (with_reducible refine w_eql ?_) | (with_reducible refine w_neq ?_) | (with_reducible refine s_eql ?_) | (with_reducible refine s_neq ?_) | ((with_reducible refine a_add64 ?h0 ?h1 ?_); (case h0 => omega); (case h1 => omega);  skip) | ((with_reducible refine a_sub64 ?h0 ?h1 ?_); (case h0 => omega); (case h1 => omega);  skip) | ((with_reducible refine a_mul64 ?h0 ?h1 ?_); (case h0 => omega); (case h1 => omega);  skip) | (with_reducible refine a_notd ?_) | (with_reducible refine a_not ?_) | (with_reducible refine a_ext0 ?_) | (with_reducible refine a_ext1 ?_) | (with_reducible refine a_ext2 ?_) | (with_reducible refine x_len ?_) | (with_reducible refine x_lens ?_) | (with_reducible refine x_eqb ?_) | (with_reducible refine x_neb ?_) | (with_reducible refine x_nilP ?_) | (with_reducible refine x_nilPn ?_) | (with_reducible refine x_nilF ?_) | (with_reducible refine x_nilFF ?_) | (with_reducible refine w_eqlL ?_) | (with_reducible refine w_neqL ?_) | (with_reducible refine s_eqlL ?_) | (with_reducible refine ifnt ?_) | (with_reducible refine ifnf ?_) | (with_reducible refine x_eqB ?_) | (with_reducible refine x_neB ?_) | (with_reducible refine x_lssL ?_) | (with_reducible refine x_gtrL ?_) | (with_reducible refine x_geqL ?_) | (with_reducible refine s_neqL ?_) | (with_reducible refine St.load h ?_) | (with_reducible refine St.loadS h ?_) | (with_reducible refine a_fld0 ?_) | (with_reducible refine St.store h fun W h => ?_) | (with_reducible refine St.storeS h fun W h => ?_) | (with_reducible refine St.alloc h fun b W h => ?_) | (with_reducible refine St.allocS h fun b W h => ?_) | (with_reducible refine a_nil ?_) | (with_reducible refine ss_load ?_) | (with_reducible refine ss_loadS ?_) | (with_reducible refine ss_eqb ?_)))
  refine ift ?_
  refine x_lenS ha ?_
  refine a_lss (ifd (fun hlt => ?_) fun hlt => ?_)
  · have hil : i < oa.length := by simp only at hlt; omega
    obtain ⟨o, ho⟩ : ∃ o, oa[i]? = some o := ⟨_, List.getElem?_eq_getElem hil⟩
    have hom := List.mem_of_getElem? ho
    have hF := hfa o hom
    have hS := hsa o hom
    refine jni (fun vs W' => ∃ bq, vs = [va, .pointer (some ⟨bq, 0, none⟩), .pointer (some ⟨bxk, 0, none⟩), nV .i64 i] ∧ ∃ zs d dx, Sim d dx ∧ d.calls ≤ i ∧ St Wz G0 (Ky (.pointer (some ⟨bq, 0, none⟩) : Value) (Dk zs d) :: Ky (.pointer (some ⟨bxk, 0, none⟩) : Value) (Xk zs dx) :: Ky PoolK.a (Pl zs) :: []) W') ?_ ?_
    · clear h
      rintro vs W2 _ ⟨bq, rfl, zs, d, dx, hsim, hcl, h⟩
      refine app4 ?_
      (repeat (first | (with_reducible refine ift ?_) | (with_reducible refine iff' ?_) | (with_reducible refine a_lss ?_) | (with_reducible refine a_leq ?_) | (with_reducible refine a_gtr ?_) | (with_reducible refine a_geq ?_) | (with_reducible refine w_eql ?_) | (with_reducible refine w_neq ?_) | (with_reducible refine s_eql ?_) | (with_reducible refine s_neq ?_) | ((with_reducible refine a_add64 ?h0 ?h1 ?_); (case h0 => omega); (case h1 => omega);  skip) | ((with_reducible refine a_sub64 ?h0 ?h1 ?_); (case h0 => omega); (case h1 => omega);  skip) | ((with_reducible refine a_mul64 ?h0 ?h1 ?_); (case h0 => omega); (case h1 => omega);  skip) | (with_reducible refine a_notd ?_) | (with_reducible refine a_not ?_) | (with_reducible refine a_ext0 ?_) | (with_reducible refine a_ext1 ?_) | (with_reducible refine a_ext2 ?_) | (with_reducible refine x_len ?_) | (with_reducible refine x_lens ?_) | (with_reducible refine x_eqb ?_) | (with_reducible refine x_neb ?_) | (with_reducible refine x_nilP ?_) | (with_reducible refine x_nilPn ?_) | (with_reducible refine x_nilF ?_) | (with_reducible refine x_nilFF ?_) | (with_reducible refine w_eqlL ?_) | (with_reducible refine w_neqL ?_) | (with_reducible refine s_eqlL ?_) | (with_reducible refine ifnt ?_) | (with_reducible refine ifnf ?_) | (with_reducible refine x_eqB ?_) | (with_reducible refine x_neB ?_) | (with_reducible refine x_lssL ?_) | (with_reducible refine x_gtrL ?_) | (with_reducible refine x_geqL ?_) | (with_reducible refine s_neqL ?_) | (with_reducible refine St.load h ?_) | (with_reducible refine St.loadS h ?_) | (with_reducible refine a_fld0 ?_) | (with_reducible refine St.store h fun W h => ?_) | (with_reducible refine St.storeS h fun W h => ?_) | (with_reducible refine St.alloc h fun b W h => ?_) | (with_reducible refine St.allocS h fun b W h => ?_) | (with_reducible refine a_nil ?_) | (with_reducible refine ss_load ?_) | (with_reducible refine ss_loadS ?_) | (with_reducible refine ss_eqb ?_)))
      refine iff' ?_
      refine x_idx (ha.below h.low) hil fun g of hcell => ?_
      refine x_lds (cs := opC o) rfl (fun j u hu => hcell j u (List.getElem?_eq_some_iff.1 hu).1 (by rw [opC_get ho (List.getElem?_eq_some_iff.1 hu).1, hu])) ?_
      refine ldoesx_spec hsim hF hS (by omega) h fun zs2 d2 dx2 W4 hsim2 hc2 h => ?_
      (repeat (first | (with_reducible refine ift ?_) | (with_reducible refine iff' ?_) | (with_reducible refine a_lss ?_) | (with_reducible refine a_leq ?_) | (with_reducible refine a_gtr ?_) | (with_reducible refine a_geq ?_) | (with_reducible refine w_eql ?_) | (with_reducible refine w_neq ?_) | (with_reducible refine s_eql ?_) | (with_reducible refine s_neq ?_) | ((with_reducible refine a_add64 ?h0 ?h1 ?_); (case h0 => omega); (case h1 => omega);  skip) | ((with_reducible refine a_sub64 ?h0 ?h1 ?_); (case h0 => omega); (case h1 => omega);  skip) | ((with_reducible refine a_mul64 ?h0 ?h1 ?_); (case h0 => omega); (case h1 => omega);  skip) | (with_reducible refine a_notd ?_) | (with_reducible refine a_not ?_) | (with_reducible refine a_ext0 ?_) | (with_reducible refine a_ext1 ?_) | (with_reducible refine a_ext2 ?_) | (with_reducible refine x_len ?_) | (with_reducible refine x_lens ?_) | (with_reducible refine x_eqb ?_) | (with_reducible refine x_neb ?_) | (with_reducible refine x_nilP ?_) | (with_reducible refine x_nilPn ?_) | (with_reducible refine x_nilF ?_) | (with_reducible refine x_nilFF ?_) | (with_reducible refine w_eqlL ?_) | (with_reducible refine w_neqL ?_) | (with_reducible refine s_eqlL ?_) | (with_reducible refine ifnt ?_) | (with_reducible refine ifnf ?_) | (with_reducible refine x_eqB ?_) | (with_reducible refine x_neB ?_) | (with_reducible refine x_lssL ?_) | (with_reducible refine x_gtrL ?_) | (with_reducible refine x_geqL ?_) | (with_reducible refine s_neqL ?_) | (with_reducible refine St.load h ?_) | (with_reducible refine St.loadS h ?_) | (with_reducible refine a_fld0 ?_) | (with_reducible refine St.store h fun W h => ?_) | (with_reducible refine St.storeS h fun W h => ?_) | (with_reducible refine St.alloc h fun b W h => ?_) | (with_reducible refine St.allocS h fun b W h => ?_) | (with_reducible refine a_nil ?_) | (with_reducible refine ss_load ?_) | (with_reducible refine ss_loadS ?_) | (with_reducible refine ss_eqb ?_)))
      refine lsame_spec hsim2 (by omega) (freezeD (v := (.pointer (some ⟨bq, 0, none⟩) : Value)) h) (freezeX (v := (.pointer (some ⟨bxk, 0, none⟩) : Value)) h) fun W5 hb5 => ?_
      replace h := h.ext hb5
      (repeat (first | (with_reducible refine ift ?_) | (with_reducible refine iff' ?_) | (with_reducible refine a_lss ?_) | (with_reducible refine a_leq ?_) | (with_reducible refine a_gtr ?_) | (with_reducible refine a_geq ?_) | (with_reducible refine w_eql ?_) | (with_reducible refine w_neq ?_) | (with_reducible refine s_eql ?_) | (with_reducible refine s_neq ?_) | ((with_reducible refine a_add64 ?h0 ?h1 ?_); (case h0 => omega); (case h1 => omega);  skip) | ((with_reducible refine a_sub64 ?h0 ?h1 ?_); (case h0 => omega); (case h1 => omega);  skip) | ((with_reducible refine a_mul64 ?h0 ?h1 ?_); (case h0 => omega); (case h1 => omega);  skip) | (with_reducible refine a_notd ?_) | (with_reducible refine a_not ?_) | (with_reducible refine a_ext0 ?_) | (with_reducible refine a_ext1 ?_) | (with_reducible refine a_ext2 ?_) | (with_reducible refine x_len ?_) | (with_reducible refine x_lens ?_) | (with_reducible refine x_eqb ?_) | (with_reducible refine x_neb ?_) | (with_reducible refine x_nilP ?_) | (with_reducible refine x_nilPn ?_) | (with_reducible refine x_nilF ?_) | (with_reducible refine x_nilFF ?_) | (with_reducible refine w_eqlL ?_) | (with_reducible refine w_neqL ?_) | (with_reducible refine s_eqlL ?_) | (with_reducible refine ifnt ?_) | (with_reducible refine ifnf ?_) | (with_reducible refine x_eqB ?_) | (with_reducible refine x_neB ?_) | (with_reducible refine x_lssL ?_) | (with_reducible refine x_gtrL ?_) | (with_reducible refine x_geqL ?_) | (with_reducible refine s_neqL ?_) | (with_reducible refine St.load h ?_) | (with_reducible refine St.loadS h ?_) | (with_reducible refine a_fld0 ?_) | (with_reducible refine St.store h fun W h => ?_) | (with_reducible refine St.storeS h fun W h => ?_) | (with_reducible refine St.alloc h fun b W h => ?_) | (with_reducible refine St.allocS h fun b W h => ?_) | (with_reducible refine a_nil ?_) | (with_reducible refine ss_load ?_) | (with_reducible refine ss_loadS ?_) | (with_reducible refine ss_eqb ?_)))
      rw [show ((i : Int) + 1) = ((i + 1 : Nat) : Int) by push_cast; rfl]
      exact ⟨rfl, rfl, hnext (i + 1, bq) W5 (by simp only; omega) ⟨by simp only; omega, zs2, d2, dx2, hsim2, by simp only; omega, h⟩⟩
    have spoil : CallF Try.prog 11 #[.pointer (some ⟨bq, 0, none⟩)] W fun t62 w => RunV Try.prog (Instr.buildSlice 29 6 #[(0, .int .u8 115), (1, .int .u8 112), (2, .int .u8 111), (3, .int .u8 105), (4, .int .u8 108), (5, .int .u8 116)]) w fun t64 w => RunV Try.prog (convert 29 29 t64) w fun t65 w =>
        CallF Try.prog 14 #[.pointer (some ⟨bq, 0, none⟩), .string ⟨#[113]⟩, t65] w fun t66 w => CallF Try.prog 28 #[.pointer (some ⟨bq, 0, none⟩), .int .i64 0, .int .i64 0] w fun t68 w =>
        lamN 4 (fun vs W' => ∃ bq, vs = [va, .pointer (some ⟨bq, 0, none⟩), .pointer (some ⟨bxk, 0, none⟩), nV .i64 i] ∧ ∃ zs d dx, Sim d dx ∧ d.calls ≤ i ∧ St Wz G0 (Ky (.pointer (some ⟨bq, 0, none⟩) : Value) (Dk zs d) :: Ky (.pointer (some ⟨bxk, 0, none⟩) : Value) (Xk zs dx) :: Ky PoolK.a (Pl zs) :: []) W') va t62 (.pointer (some ⟨bxk, 0, none⟩)) (nV .i64 i) w := by
      refine copy_spec (v := (.pointer (some ⟨bq, 0, none⟩) : Value)) h (by omega) fun bc W h => ?_
      refine h.lit (vs := [byteV 115, byteV 112, byteV 111, byteV 105, byteV 108, byteV 116]) (fun u W o h => ?_) (by decide)
      refine h.markB (v := u) (by decide) fun W h => ?_
      replace h := h.plAddR .a (v := u) (x := [115, 112, 111, 105, 108, 116]) rfl rfl
      replace h := upD (v := (.pointer (some ⟨bq, 0, none⟩) : Value)) h (subZ (z := (u, [115, 112, 111, 105, 108, 116])))
      replace h := upD (v := (.pointer (some ⟨bc, 0, none⟩) : Value)) h (subZ (z := (u, [115, 112, 111, 105, 108, 116])))
      replace h := upX (v := (.pointer (some ⟨bxk, 0, none⟩) : Value)) h (subZ (z := (u, [115, 112, 111, 105, 108, 116])))
      refine append_spec (v := (.pointer (some ⟨bq, 0, none⟩) : Value)) (s := [113]) (b := [115, 112, 111, 105, 108, 116]) h (by omega) (by decide) (Arg.pool (.inl List.mem_cons_self)) (by decide) fun zs1 W hz1 h => ?_
      replace h := upD (v := (.pointer (some ⟨bc, 0, none⟩) : Value)) h hz1
      replace h := upX (v := (.pointer (some ⟨bxk, 0, none⟩) : Value)) h hz1
      obtain ⟨ev, oe, h⟩ := openD (v := (.pointer (some ⟨bq, 0, none⟩) : Value)) h
      refine crash_spec (v := (.pointer (some ⟨bq, 0, none⟩) : Value)) (keep := 0) (torn := 0) h fun zs2 W hz2 h => ?_
      replace h := upD (v := (.pointer (some ⟨bc, 0, none⟩) : Value)) h hz2
      replace h := upX (v := (.pointer (some ⟨bxk, 0, none⟩) : Value)) h hz2
      exact ⟨bc, rfl, zs2, d, dx, hsim, hcl, h.to⟩
    refine x_fld (ha.below h.low) hil (off := 0) (by decide) ((opC_get ho (by decide)).trans rfl) ?_
    refine a_lss (ifd (fun hk => spoil) fun hk => ?_)
    refine x_fld (ha.below h.low) hil (off := 0) (by decide) ((opC_get ho (by decide)).trans rfl) ?_
    refine a_gtr (ifd (fun hk => spoil) fun hk => ?_)
    exact ⟨bq, rfl, zs, d, dx, hsim, hcl, h⟩
  · exact ⟨rfl, h.low⟩
end
end Go.Proofs.Ytdoopdbfajgnjaa
