/-
  FILES THAT FALL, the leaves: copies, names, maps cloned, a change made: what each function answers.
-/
import Derived.Test.YtdoopdbfajgnjaaEzGm
import Derived.Test.YtdoopdbfajgnjaaEzMk
import Derived.Test.YtdoopdbfajgnjaaEzFz
import Derived.Test.YtdoopdbfajgnjaaEzUt
import Derived.Test.YtdoopdbfajgnjaaTy
import Derived.Test.YtdoopdbfajgnjaaSh
namespace Go.Ez
open Go Go.Proofs Go.RowKit
set_option linter.unusedSimpArgs false
set_option linter.unusedVariables false
/-- where a slice lies -/
abbrev Sv := Option Addr × Nat × Nat
def svV (s : Sv) : Value := .slice s.1 s.2.1 s.2.2
/-- a change in memory -/
def chC : Chg × Sv → List Value
  | (.puts k d, s) => [.int .i64 0, strV k, strV [], svV s, .int .i64 0]
  | (.cuts k n, _) => [.int .i64 1, strV k, strV [], .slice none 0 0, .int .i64 (n : Int)]
  | (.names k t, _) => [.int .i64 2, strV k, strV t, .slice none 0 0, .int .i64 0]
  | (.takes k, _) => [.int .i64 3, strV k, strV [], .slice none 0 0, .int .i64 0]
def ChK (zs : Zs) : Chg × Sv → Prop
  | (.puts k d, s) => PlIn zs (svV s) d
  | _ => True
theorem ChK.sub {zs zs' : Zs} {c : Chg × Sv} (h : ChK zs c) (hz : ∀ z ∈ zs, z ∈ zs') : ChK zs' c := by
  obtain ⟨c, s⟩ := c
  cases c with
  | puts k d => exact PlIn.sub h hz
  | _ => trivial
theorem chC_len (c : Chg × Sv) : (chC c).length = 5 := by
  obtain ⟨c, s⟩ := c
  cases c <;> rfl
theorem chC_one (l : List (Chg × Sv)) : ∀ c ∈ rcells chC l, c.oneCell' = true := rc_one (fun p c hc => by
  obtain ⟨p, s⟩ := p
  cases p <;>
  · simp only [chC, List.mem_cons, List.not_mem_nil, or_false] at hc
    rcases hc with rfl | rfl | rfl | rfl | rfl <;> rfl) l
def evC (e : Ev) : List Value := [.int .i64 e.1, .int .i64 e.2.1, .int .i64 e.2.2.1, .int .i64 e.2.2.2]
theorem evC_one (l : List Ev) : ∀ c ∈ rcells evC l, c.oneCell' = true := rc_one (fun p c hc => by
  simp only [evC, List.mem_cons, List.not_mem_nil, or_false] at hc
  rcases hc with rfl | rfl | rfl | rfl <;> rfl) l
theorem By.sv {W : World} {v : Value} {l : Txt} (h : By W v l) : ∃ s : Sv, v = svV s := by
  obtain ⟨ao, cap, hv, _⟩ := h
  exact ⟨(ao, _, cap), hv⟩
theorem Sl.cutV {W : World} {sz n k : Nat} {v : Value} {cs : List Value} (h : Sl W sz v n cs) (hk : k ≤ n) : Sl W sz (Ez.cutV v k) k (cs.take (k * sz)) := by
  obtain ⟨ao, cap, rfl, h1, h2, h3, h4⟩ := h
  refine ⟨ao, cap, rfl, by omega, ?_, fun j u hj => ?_, h4⟩
  · rw [List.length_take, h2]; exact Nat.min_eq_left (Nat.mul_le_mul_right _ hk)
  · rw [List.getElem?_take] at hj
    split at hj
    · exact h3 j u hj
    · cases hj
section
variable {P : Program} {w : World} {K : Value → Prop} {KW : Value → World → Prop}
theorem x_mapNil {t k e : TypeId} {X Y : Operand} {p : Option Nat} [U : Und P t (.map k e)] (h : K (.bool p.isNone)) : RunW P (bin .eql t X Y (.map p) (.map none)) w K :=
  .of (by
    have hq : (Op.equal t (.map p) (.map none)).run P w = .ok p.isNone w := by
      have h : ∀ d, (Op.equalIn (d + 1) t (.map p) (.map none)).run P w = .ok p.isNone w := fun d => by cases p <;> simp [Op.equalIn, run_underlying U.eq]
      exact h 9999
    show (do eqGuard .eql t X Y (.map p) (.map none); pure (Value.bool (← Op.equal t (.map p) (.map none))) : Sem Value).run P w = _
    simp [eqGuard, hq]) h
theorem v_assertM {t xT k e : TypeId} {v : Value} [U : Und P t (.map k e)] (h : KW v w) : RunV P (Instr.typeAssert (.iface t v) xT t false) w KW :=
  .of (by simp [Instr.typeAssert, run_underlying U.eq, go_sem, Result.andThen]) h
theorem run_mapsClone {r : Nat} {es : Array MapEntry} {clock : Nat} (t : TypeId) (hb : w.heap[r]? = some (.map es clock)) :
    (Extern.MapsClone.clone #[.iface t (.map (some r))]).run P w = .ok (.iface t (.map (some w.heap.size))) (w.alloc (.map es clock)) := by
  have e : Extern.MapsClone.clone #[.iface t (.map (some r))] = (getObj r >>= fun o => match o with
      | .map entries clock => (newObj (.map entries clock) >>= fun n => pure (.iface t (.map (some n))))
      | _ => stuck "maps.clone: a map expected") := rfl
  rw [e]
  simp [MapKept.run_getObj_map hb, Result.andThen, go_sem]
instance (a : Option Nat) : Cel1 (.map a) := ⟨rfl⟩
instance (s : Sv) : Cel1 (svV s) := ⟨rfl⟩
end
end Go.Ez
namespace Go.Proofs.Ytdoopdbfajgnjaa
open Go Go.Ez Go.RowKit
set_option linter.unusedSimpArgs false
set_option linter.unusedVariables false

theorem elB : ElT Try.prog 29 5 1 1 (.int .u8 0) := ⟨Try.underlying29, by kernel_rfl, rfl, by decide⟩

/-- hblref.CopyBytes -/
theorem copyBytes_spec {v : Value} {l : List UInt8} {w : World} {R : Value → World → Prop} (hv : By w v l) (hl : l.length ≤ 140737488351232)
    (h : ∀ v' w', w'.ownsRow w.heap.size 5 1 v' l.length (bytesV l) → Below w.heap.size w w' → R v' w') : CallF Try.prog 16 #[v] w R := by
  refine sh16_calls ?_
  unfold sh16
  refine v_lit0 elB ?_
  have hb : Below w.heap.size w (w.alloc (.cells #[] 5)) := (Below.refl _ w).alloc (Nat.le_refl _) _
  have hown := own_lit (w := w) (base := w.heap.size) (e := 5) (cs := []) (n := 0) (Nat.le_refl _) rfl (by unfold maxLen; omega)
  refine v_app elB hown (hv.below hb) (bytesV_one l) (by unfold maxLen; omega) (by omega) (by simp) ?_
  intro v' w' h1 h2 h3
  rw [Nat.zero_add, List.nil_append] at h1
  exact h v' w' h1 (hb.grown h2 (by simp) (fun k e => by cases e; exact Nat.le_refl _))

/-- bytes.Clone -/
theorem bclone_spec {v : Value} {l : List UInt8} {w : World} {R : Value → World → Prop} (hv : By w v l) (hl : l.length ≤ 140737488351232)
    (h : ∀ v' w', w'.ownsRow w.heap.size 5 1 v' l.length (bytesV l) → Below w.heap.size w w' → R v' w') : CallF Try.prog 39 #[v] w R := by
  refine sh39_calls ?_
  unfold sh39
  refine w_nilSE Try.underlying29 hv fun b hb => ifb (fun e => ?_) fun e => ?_
  · have := (hb e).2
    have hl0 : l = [] := List.eq_nil_of_length_eq_zero this
    subst hl0
    exact h _ _ own_nil (Below.refl _ _)
  · refine v_lit0 elB ?_
    have hb : Below w.heap.size w (w.alloc (.cells #[] 5)) := (Below.refl _ w).alloc (Nat.le_refl _) _
    have hown := own_lit (w := w) (base := w.heap.size) (e := 5) (cs := []) (n := 0) (Nat.le_refl _) rfl (by unfold maxLen; omega)
    refine v_app elB hown (hv.below hb) (bytesV_one l) (by unfold maxLen; omega) (by omega) (by simp) ?_
    intro v' w' h1 h2 h3
    rw [Nat.zero_add, List.nil_append] at h1
    exact h v' w' h1 (hb.grown h2 (by simp) (fun k e => by cases e; exact Nat.le_refl _))

/-- hblref.Bytes -/
theorem bytes_spec {u v : Value} {l m : List UInt8} {w : World} {R : Value → World → Prop} (hu : By w u l) (hv : By w v m) (h : R (.bool (decide (l = m))) w) : CallF Try.prog 15 #[u, v] w R := by
  refine sh15_calls ?_
  unfold sh15
  refine v_str Try.underlying29 Try.underlying5 Try.underlying9 hu ?_
  refine v_str Try.underlying29 Try.underlying5 Try.underlying9 hv ?_
  exact w_eqlL h

section
variable {w0 W : World} {G : Nat → Prop} {l R R1 R2 : List As} {zs : Zs} {m : Fm} {b : Nat} {v : Value} {RR : Value → World → Prop}
/-- slices.Clone, of changes -/
theorem pclone_spec {n : Nat} {xs : List Value} (hs : Sl W 5 v n xs) (hx : ∀ c ∈ xs, c.oneCell' = true) (hn : n ≤ 1000000000) (k : ∀ v' W', W'.ownsRow W.heap.size 73 5 v' n xs → Below W.heap.size W W' → RR v' W') :
    CallF Try.prog 37 #[v] W RR := by
  refine sh37_calls ?_
  unfold sh37
  have h := St.start W
  refine w_nilSE Try.underlying67 hs fun b hb => ?_
  refine ifb (fun hb1 => ?_) fun _ => ?_
  · obtain ⟨rfl, rfl⟩ := hb hb1
    obtain ⟨_, _, _, _, hl, _⟩ := hs
    have : xs = [] := List.eq_nil_of_length_eq_zero (by simpa using hl)
    subst this
    exact k _ W own_nil (Below.refl _ _)
  · refine h.lit (vs := []) (fun v1 W1 o1 h => ?_) (by decide)
    refine h.app (v := v1) (h.sl0 hs) hx (by unfold maxLen; omega) (by omega) fun v2 W2 o2 h _ => ?_
    have := h.owG (v := v2)
    rw [Nat.zero_add, List.nil_append] at this
    exact k v2 W2 this h.low
/-- slices.Clone, of events -/
theorem eclone_spec {n : Nat} {xs : List Value} (hs : Sl W 4 v n xs) (hx : ∀ c ∈ xs, c.oneCell' = true) (hn : n ≤ 1000000000) (k : ∀ v' W', W'.ownsRow W.heap.size 76 4 v' n xs → Below W.heap.size W W' → RR v' W') :
    CallF Try.prog 38 #[v] W RR := by
  refine sh38_calls ?_
  unfold sh38
  have h := St.start W
  refine w_nilSE Try.underlying30 hs fun b hb => ?_
  refine ifb (fun hb1 => ?_) fun _ => ?_
  · obtain ⟨rfl, rfl⟩ := hb hb1
    obtain ⟨_, _, _, _, hl, _⟩ := hs
    have : xs = [] := List.eq_nil_of_length_eq_zero (by simpa using hl)
    subst this
    exact k _ W own_nil (Below.refl _ _)
  · refine h.lit (vs := []) (fun v1 W1 o1 h => ?_) (by decide)
    refine h.app (v := v1) (h.sl0 hs) hx (by unfold maxLen; omega) (by omega) fun v2 W2 o2 h _ => ?_
    have := h.owG (v := v2)
    rw [Nat.zero_add, List.nil_append] at this
    exact k v2 W2 this h.low
/-- maps.Clone -/
theorem mclone_spec [i : Has l b (Mg zs m) R] (h : St w0 G l W) (k : ∀ b' W', St w0 G (Ky b' (Mg zs m) :: l) W' → RR (.map (some b')) W') : CallF Try.prog 36 #[.map (some b)] W RR := by
  refine sh36_calls ?_
  unfold sh36
  obtain ⟨E, c, hg, hb⟩ := mapOb (b := b) h
  refine x_mapNil (iff' ?_)
  refine RunV.of (run_makeInterface W 66 _ (by kernel_rfl)) ?_
  refine RunO.of (v := .iface 66 (.map (some W.heap.size))) (w' := W.alloc (mO E c)) ?_ ?_
  · rw [run_callFunc_extern Try.func68 (by kernel_rfl) (by kernel_rfl) (by kernel_rfl) (e := Extern.MapsClone.clone) (by kernel_rfl), run_mapsClone 66 hb]
    rfl
  refine v_assertM ?_
  exact k _ _ (St.shutG (h.newB (b := W.heap.size) (o := mO E c) ((Below.refl _ W).alloc (Nat.le_refl _) _) (Nat.le_refl _) (World.alloc_heap_new W _)) hg)
theorem subZ {zs : Zs} {z : Value × Txt} : ∀ y ∈ zs, y ∈ z :: zs := fun y hy => List.mem_cons_of_mem _ hy
/-- make -/
theorem make_spec {c : Chg} {s : Sv} [i : Has l b (Mg zs m) R1] [j : Has R1 PoolK.a (Pl zs) R] (h : St w0 G l W) (hg : Gm m) (hok : c.ok m) (hck : ChK zs (c, s))
    (k : ∀ zs' W', (∀ z ∈ zs, z ∈ zs') → St w0 G (Ky b (Mg zs' (c.app m)) :: Ky PoolK.a (Pl zs') :: R) W' → RR (.tuple #[]) W') : CallF Try.prog 46 #[.map (some b), .agg (chC (c, s)).toArray] W RR := by
  refine sh46_calls ?_
  unfold sh46
  have h0 : St w0 G (Ky b (Mg zs m) :: Ky PoolK.a (Pl zs) :: R) W := by
    obtain ⟨F, hF, hG⟩ := h.own
    exact { h with own := ⟨F, sepL_mono j.to (i.to F W hF), hG⟩ }
  clear h
  replace h := h0
  clear h0
  refine h.boxS (cs := chC (c, s)) fun bx W h => ?_
  have hle := gt_le (k := match c with | .puts k _ => k | .cuts k _ => k | .names k _ => k | .takes k => k) hg.srt
  have htot := hg.tot
  cases c with
  | puts key d =>
    simp only [chC] at h
    (repeat (first | (with_reducible refine ift ?_) | (with_reducible refine iff' ?_) | (with_reducible refine a_lss ?_) | (with_reducible refine a_leq ?_) | (with_reducible refine a_gtr ?_) | (with_reducible refine a_geq ?_) | (with_reducible refine w_eql ?_) | (with_reducible refine w_neq ?_) | (with_reducible refine s_eql ?_) | (with_reducible refine s_neq ?_) | ((with_reducible refine a_add64 ?h0 ?h1 ?_); (case h0 => omega); (case h1 => omega);  skip) | ((with_reducible refine a_sub64 ?h0 ?h1 ?_); (case h0 => omega); (case h1 => omega);  skip) | ((with_reducible refine a_mul64 ?h0 ?h1 ?_); (case h0 => omega); (case h1 => omega);  skip) | (with_reducible refine a_notd ?_) | (with_reducible refine a_not ?_) | (with_reducible refine a_ext0 ?_) | (with_reducible refine a_ext1 ?_) | (with_reducible refine a_ext2 ?_) | (with_reducible refine x_len ?_) | (with_reducible refine x_lens ?_) | (with_reducible refine x_eqb ?_) | (with_reducible refine x_neb ?_) | (with_reducible refine x_nilP ?_) | (with_reducible refine x_nilPn ?_) | (with_reducible refine x_nilF ?_) | (with_reducible refine x_nilFF ?_) | (with_reducible refine w_eqlL ?_) | (with_reducible refine w_neqL ?_) | (with_reducible refine s_eqlL ?_) | (with_reducible refine ifnt ?_) | (with_reducible refine ifnf ?_) | (with_reducible refine x_eqB ?_) | (with_reducible refine x_neB ?_) | (with_reducible refine x_lssL ?_) | (with_reducible refine x_gtrL ?_) | (with_reducible refine x_geqL ?_) | (with_reducible refine s_neqL ?_) | (with_reducible refine St.load h ?_) | (with_reducible refine St.loadS h ?_) | (with_reducible refine a_fld0 ?_) | (with_reducible refine St.store h fun W h => ?_) | (with_reducible refine St.storeS h fun W h => ?_) | (with_reducible refine St.alloc h fun b W h => ?_) | (with_reducible refine St.allocS h fun b W h => ?_) | (with_reducible refine a_nil ?_) | (with_reducible refine ss_load ?_) | (with_reducible refine ss_loadS ?_) | (with_reducible refine ss_eqb ?_)))
    refine h.look (b := b) fun v hv => ?_
    (repeat (first | (with_reducible refine ift ?_) | (with_reducible refine iff' ?_) | (with_reducible refine a_lss ?_) | (with_reducible refine a_leq ?_) | (with_reducible refine a_gtr ?_) | (with_reducible refine a_geq ?_) | (with_reducible refine w_eql ?_) | (with_reducible refine w_neq ?_) | (with_reducible refine s_eql ?_) | (with_reducible refine s_neq ?_) | ((with_reducible refine a_add64 ?h0 ?h1 ?_); (case h0 => omega); (case h1 => omega);  skip) | ((with_reducible refine a_sub64 ?h0 ?h1 ?_); (case h0 => omega); (case h1 => omega);  skip) | ((with_reducible refine a_mul64 ?h0 ?h1 ?_); (case h0 => omega); (case h1 => omega);  skip) | (with_reducible refine a_notd ?_) | (with_reducible refine a_not ?_) | (with_reducible refine a_ext0 ?_) | (with_reducible refine a_ext1 ?_) | (with_reducible refine a_ext2 ?_) | (with_reducible refine x_len ?_) | (with_reducible refine x_lens ?_) | (with_reducible refine x_eqb ?_) | (with_reducible refine x_neb ?_) | (with_reducible refine x_nilP ?_) | (with_reducible refine x_nilPn ?_) | (with_reducible refine x_nilF ?_) | (with_reducible refine x_nilFF ?_) | (with_reducible refine w_eqlL ?_) | (with_reducible refine w_neqL ?_) | (with_reducible refine s_eqlL ?_) | (with_reducible refine ifnt ?_) | (with_reducible refine ifnf ?_) | (with_reducible refine x_eqB ?_) | (with_reducible refine x_neB ?_) | (with_reducible refine x_lssL ?_) | (with_reducible refine x_gtrL ?_) | (with_reducible refine x_geqL ?_) | (with_reducible refine s_neqL ?_) | (with_reducible refine St.load h ?_) | (with_reducible refine St.loadS h ?_) | (with_reducible refine a_fld0 ?_) | (with_reducible refine St.store h fun W h => ?_) | (with_reducible refine St.storeS h fun W h => ?_) | (with_reducible refine St.alloc h fun b W h => ?_) | (with_reducible refine St.allocS h fun b W h => ?_) | (with_reducible refine a_nil ?_) | (with_reducible refine ss_load ?_) | (with_reducible refine ss_loadS ?_) | (with_reducible refine ss_eqb ?_)))
    refine ifd_pos rfl ?_
    have hby := h.plGet .a hv
    have hby2 := h.plGet .a (show PlIn zs (svV s) d from hck)
    have hok' : tot m + d.length ≤ 1073741824 := hok
    replace h := h.drew
    refine ⟨fun W' => Rec W' bx 73 [.int .i64 0, strV key, strV [], svV s, .int .i64 0], h.rc, ?_⟩
    refine a_fld0 (s_ld (fun w hw => hw) rfl ?_)
    refine a_fld0 (s_ld (fun w hw => hw) rfl ?_)
    simp only at hle
    refine bclone_spec (h.plGet .a hv) (by omega) fun v1 W1 g1 g2 => ?_
    replace h := h.take g2 g1
    refine ⟨h.rc, ?_⟩
    refine h.app (v := v1) (h.plGet .a (show PlIn zs (svV s) d from hck)) (bytesV_one d) (by unfold maxLen; omega) (by omega) fun v2 W2 o2 h _ => ?_
    refine ⟨h.rc, ?_⟩
    rw [← bytesV_append] at h
    replace h := h.plAdd .a (v := v2) (x := gt key m ++ d) (by rw [List.length_append]) rfl
    replace h := h.upG (b := b) (subZ (z := (v2, gt key m ++ d)))
    refine h.mapPut (b := b) (x := gt key m ++ d) (.inl List.mem_cons_self) fun W3 h => ?_
    exact k ((v2, gt key m ++ d) :: zs) W3 subZ (show St w0 G (Ky b (Mg ((v2, gt key m ++ d) :: zs) (putK key (gt key m ++ d) m)) :: Ky PoolK.a (Pl ((v2, gt key m ++ d) :: zs)) :: R) W3 from h.to)
  | cuts key n =>
    simp only [chC] at h
    (repeat (first | (with_reducible refine ift ?_) | (with_reducible refine iff' ?_) | (with_reducible refine a_lss ?_) | (with_reducible refine a_leq ?_) | (with_reducible refine a_gtr ?_) | (with_reducible refine a_geq ?_) | (with_reducible refine w_eql ?_) | (with_reducible refine w_neq ?_) | (with_reducible refine s_eql ?_) | (with_reducible refine s_neq ?_) | ((with_reducible refine a_add64 ?h0 ?h1 ?_); (case h0 => omega); (case h1 => omega);  skip) | ((with_reducible refine a_sub64 ?h0 ?h1 ?_); (case h0 => omega); (case h1 => omega);  skip) | ((with_reducible refine a_mul64 ?h0 ?h1 ?_); (case h0 => omega); (case h1 => omega);  skip) | (with_reducible refine a_notd ?_) | (with_reducible refine a_not ?_) | (with_reducible refine a_ext0 ?_) | (with_reducible refine a_ext1 ?_) | (with_reducible refine a_ext2 ?_) | (with_reducible refine x_len ?_) | (with_reducible refine x_lens ?_) | (with_reducible refine x_eqb ?_) | (with_reducible refine x_neb ?_) | (with_reducible refine x_nilP ?_) | (with_reducible refine x_nilPn ?_) | (with_reducible refine x_nilF ?_) | (with_reducible refine x_nilFF ?_) | (with_reducible refine w_eqlL ?_) | (with_reducible refine w_neqL ?_) | (with_reducible refine s_eqlL ?_) | (with_reducible refine ifnt ?_) | (with_reducible refine ifnf ?_) | (with_reducible refine x_eqB ?_) | (with_reducible refine x_neB ?_) | (with_reducible refine x_lssL ?_) | (with_reducible refine x_gtrL ?_) | (with_reducible refine x_geqL ?_) | (with_reducible refine s_neqL ?_) | (with_reducible refine St.load h ?_) | (with_reducible refine St.loadS h ?_) | (with_reducible refine a_fld0 ?_) | (with_reducible refine St.store h fun W h => ?_) | (with_reducible refine St.storeS h fun W h => ?_) | (with_reducible refine St.alloc h fun b W h => ?_) | (with_reducible refine St.allocS h fun b W h => ?_) | (with_reducible refine a_nil ?_) | (with_reducible refine ss_load ?_) | (with_reducible refine ss_loadS ?_) | (with_reducible refine ss_eqb ?_)))
    refine h.look (b := b) fun v hv => ?_
    (repeat (first | (with_reducible refine ift ?_) | (with_reducible refine iff' ?_) | (with_reducible refine a_lss ?_) | (with_reducible refine a_leq ?_) | (with_reducible refine a_gtr ?_) | (with_reducible refine a_geq ?_) | (with_reducible refine w_eql ?_) | (with_reducible refine w_neq ?_) | (with_reducible refine s_eql ?_) | (with_reducible refine s_neq ?_) | ((with_reducible refine a_add64 ?h0 ?h1 ?_); (case h0 => omega); (case h1 => omega);  skip) | ((with_reducible refine a_sub64 ?h0 ?h1 ?_); (case h0 => omega); (case h1 => omega);  skip) | ((with_reducible refine a_mul64 ?h0 ?h1 ?_); (case h0 => omega); (case h1 => omega);  skip) | (with_reducible refine a_notd ?_) | (with_reducible refine a_not ?_) | (with_reducible refine a_ext0 ?_) | (with_reducible refine a_ext1 ?_) | (with_reducible refine a_ext2 ?_) | (with_reducible refine x_len ?_) | (with_reducible refine x_lens ?_) | (with_reducible refine x_eqb ?_) | (with_reducible refine x_neb ?_) | (with_reducible refine x_nilP ?_) | (with_reducible refine x_nilPn ?_) | (with_reducible refine x_nilF ?_) | (with_reducible refine x_nilFF ?_) | (with_reducible refine w_eqlL ?_) | (with_reducible refine w_neqL ?_) | (with_reducible refine s_eqlL ?_) | (with_reducible refine ifnt ?_) | (with_reducible refine ifnf ?_) | (with_reducible refine x_eqB ?_) | (with_reducible refine x_neB ?_) | (with_reducible refine x_lssL ?_) | (with_reducible refine x_gtrL ?_) | (with_reducible refine x_geqL ?_) | (with_reducible refine s_neqL ?_) | (with_reducible refine St.load h ?_) | (with_reducible refine St.loadS h ?_) | (with_reducible refine a_fld0 ?_) | (with_reducible refine St.store h fun W h => ?_) | (with_reducible refine St.storeS h fun W h => ?_) | (with_reducible refine St.alloc h fun b W h => ?_) | (with_reducible refine St.allocS h fun b W h => ?_) | (with_reducible refine a_nil ?_) | (with_reducible refine ss_load ?_) | (with_reducible refine ss_loadS ?_) | (with_reducible refine ss_eqb ?_)))
    refine ifd_neg (by decide) ?_
    (repeat (first | (with_reducible refine ift ?_) | (with_reducible refine iff' ?_) | (with_reducible refine a_lss ?_) | (with_reducible refine a_leq ?_) | (with_reducible refine a_gtr ?_) | (with_reducible refine a_geq ?_) | (with_reducible refine w_eql ?_) | (with_reducible refine w_neq ?_) | (with_reducible refine s_eql ?_) | (with_reducible refine s_neq ?_) | ((with_reducible refine a_add64 ?h0 ?h1 ?_); (case h0 => omega); (case h1 => omega);  skip) | ((with_reducible refine a_sub64 ?h0 ?h1 ?_); (case h0 => omega); (case h1 => omega);  skip) | ((with_reducible refine a_mul64 ?h0 ?h1 ?_); (case h0 => omega); (case h1 => omega);  skip) | (with_reducible refine a_notd ?_) | (with_reducible refine a_not ?_) | (with_reducible refine a_ext0 ?_) | (with_reducible refine a_ext1 ?_) | (with_reducible refine a_ext2 ?_) | (with_reducible refine x_len ?_) | (with_reducible refine x_lens ?_) | (with_reducible refine x_eqb ?_) | (with_reducible refine x_neb ?_) | (with_reducible refine x_nilP ?_) | (with_reducible refine x_nilPn ?_) | (with_reducible refine x_nilF ?_) | (with_reducible refine x_nilFF ?_) | (with_reducible refine w_eqlL ?_) | (with_reducible refine w_neqL ?_) | (with_reducible refine s_eqlL ?_) | (with_reducible refine ifnt ?_) | (with_reducible refine ifnf ?_) | (with_reducible refine x_eqB ?_) | (with_reducible refine x_neB ?_) | (with_reducible refine x_lssL ?_) | (with_reducible refine x_gtrL ?_) | (with_reducible refine x_geqL ?_) | (with_reducible refine s_neqL ?_) | (with_reducible refine St.load h ?_) | (with_reducible refine St.loadS h ?_) | (with_reducible refine a_fld0 ?_) | (with_reducible refine St.store h fun W h => ?_) | (with_reducible refine St.storeS h fun W h => ?_) | (with_reducible refine St.alloc h fun b W h => ?_) | (with_reducible refine St.allocS h fun b W h => ?_) | (with_reducible refine a_nil ?_) | (with_reducible refine ss_load ?_) | (with_reducible refine ss_loadS ?_) | (with_reducible refine ss_eqb ?_)))
    refine ifd_pos rfl ?_
    have hok' : n ≤ (gt key m).length := hok
    replace h := h.drew
    refine ⟨fun W' => Rec W' bx 73 [.int .i64 1, strV key, strV [], .slice none 0 0, .int .i64 (n : Int)], h.rc, ?_⟩
    refine a_fld0 (s_ld (fun w hw => hw) rfl ?_)
    refine a_fld0 (s_ld (fun w hw => hw) rfl ?_)
    refine a_sliceH elB (h.plGet .a hv) (by omega) (by omega) fun v1 hv1 => ?_
    have hcut : By W.drew v1 ((gt key m).take n) := by
      have e1 : ((gt key m).take n).length = n := by rw [List.length_take]; omega
      unfold By
      rw [e1]
      have e2 : bytesV ((gt key m).take n) = (bytesV (gt key m)).take n := by simp [bytesV, List.map_take]
      rw [e2]
      simpa using hv1
    simp only at hle
    refine bclone_spec hcut (by rw [List.length_take]; omega) fun v2 W1 g1 g2 => ?_
    replace h := h.take g2 g1
    refine ⟨h.rc, ?_⟩
    replace h := h.plAdd .a (v := v2) (x := (gt key m).take n) rfl rfl
    replace h := h.upG (b := b) (subZ (z := (v2, (gt key m).take n)))
    refine h.mapPut (b := b) (x := (gt key m).take n) (.inl List.mem_cons_self) fun W3 h => ?_
    exact k ((v2, (gt key m).take n) :: zs) W3 subZ (show St w0 G (Ky b (Mg ((v2, (gt key m).take n) :: zs) (putK key ((gt key m).take n) m)) :: Ky PoolK.a (Pl ((v2, (gt key m).take n) :: zs)) :: R) W3 from h.to)
  | names key to =>
    simp only [chC] at h
    (repeat (first | (with_reducible refine ift ?_) | (with_reducible refine iff' ?_) | (with_reducible refine a_lss ?_) | (with_reducible refine a_leq ?_) | (with_reducible refine a_gtr ?_) | (with_reducible refine a_geq ?_) | (with_reducible refine w_eql ?_) | (with_reducible refine w_neq ?_) | (with_reducible refine s_eql ?_) | (with_reducible refine s_neq ?_) | ((with_reducible refine a_add64 ?h0 ?h1 ?_); (case h0 => omega); (case h1 => omega);  skip) | ((with_reducible refine a_sub64 ?h0 ?h1 ?_); (case h0 => omega); (case h1 => omega);  skip) | ((with_reducible refine a_mul64 ?h0 ?h1 ?_); (case h0 => omega); (case h1 => omega);  skip) | (with_reducible refine a_notd ?_) | (with_reducible refine a_not ?_) | (with_reducible refine a_ext0 ?_) | (with_reducible refine a_ext1 ?_) | (with_reducible refine a_ext2 ?_) | (with_reducible refine x_len ?_) | (with_reducible refine x_lens ?_) | (with_reducible refine x_eqb ?_) | (with_reducible refine x_neb ?_) | (with_reducible refine x_nilP ?_) | (with_reducible refine x_nilPn ?_) | (with_reducible refine x_nilF ?_) | (with_reducible refine x_nilFF ?_) | (with_reducible refine w_eqlL ?_) | (with_reducible refine w_neqL ?_) | (with_reducible refine s_eqlL ?_) | (with_reducible refine ifnt ?_) | (with_reducible refine ifnf ?_) | (with_reducible refine x_eqB ?_) | (with_reducible refine x_neB ?_) | (with_reducible refine x_lssL ?_) | (with_reducible refine x_gtrL ?_) | (with_reducible refine x_geqL ?_) | (with_reducible refine s_neqL ?_) | (with_reducible refine St.load h ?_) | (with_reducible refine St.loadS h ?_) | (with_reducible refine a_fld0 ?_) | (with_reducible refine St.store h fun W h => ?_) | (with_reducible refine St.storeS h fun W h => ?_) | (with_reducible refine St.alloc h fun b W h => ?_) | (with_reducible refine St.allocS h fun b W h => ?_) | (with_reducible refine a_nil ?_) | (with_reducible refine ss_load ?_) | (with_reducible refine ss_loadS ?_) | (with_reducible refine ss_eqb ?_)))
    refine h.look (b := b) fun v hv => ?_
    (repeat (first | (with_reducible refine ift ?_) | (with_reducible refine iff' ?_) | (with_reducible refine a_lss ?_) | (with_reducible refine a_leq ?_) | (with_reducible refine a_gtr ?_) | (with_reducible refine a_geq ?_) | (with_reducible refine w_eql ?_) | (with_reducible refine w_neq ?_) | (with_reducible refine s_eql ?_) | (with_reducible refine s_neq ?_) | ((with_reducible refine a_add64 ?h0 ?h1 ?_); (case h0 => omega); (case h1 => omega);  skip) | ((with_reducible refine a_sub64 ?h0 ?h1 ?_); (case h0 => omega); (case h1 => omega);  skip) | ((with_reducible refine a_mul64 ?h0 ?h1 ?_); (case h0 => omega); (case h1 => omega);  skip) | (with_reducible refine a_notd ?_) | (with_reducible refine a_not ?_) | (with_reducible refine a_ext0 ?_) | (with_reducible refine a_ext1 ?_) | (with_reducible refine a_ext2 ?_) | (with_reducible refine x_len ?_) | (with_reducible refine x_lens ?_) | (with_reducible refine x_eqb ?_) | (with_reducible refine x_neb ?_) | (with_reducible refine x_nilP ?_) | (with_reducible refine x_nilPn ?_) | (with_reducible refine x_nilF ?_) | (with_reducible refine x_nilFF ?_) | (with_reducible refine w_eqlL ?_) | (with_reducible refine w_neqL ?_) | (with_reducible refine s_eqlL ?_) | (with_reducible refine ifnt ?_) | (with_reducible refine ifnf ?_) | (with_reducible refine x_eqB ?_) | (with_reducible refine x_neB ?_) | (with_reducible refine x_lssL ?_) | (with_reducible refine x_gtrL ?_) | (with_reducible refine x_geqL ?_) | (with_reducible refine s_neqL ?_) | (with_reducible refine St.load h ?_) | (with_reducible refine St.loadS h ?_) | (with_reducible refine a_fld0 ?_) | (with_reducible refine St.store h fun W h => ?_) | (with_reducible refine St.storeS h fun W h => ?_) | (with_reducible refine St.alloc h fun b W h => ?_) | (with_reducible refine St.allocS h fun b W h => ?_) | (with_reducible refine a_nil ?_) | (with_reducible refine ss_load ?_) | (with_reducible refine ss_loadS ?_) | (with_reducible refine ss_eqb ?_)))
    refine ifd_neg (by decide) ?_
    (repeat (first | (with_reducible refine ift ?_) | (with_reducible refine iff' ?_) | (with_reducible refine a_lss ?_) | (with_reducible refine a_leq ?_) | (with_reducible refine a_gtr ?_) | (with_reducible refine a_geq ?_) | (with_reducible refine w_eql ?_) | (with_reducible refine w_neq ?_) | (with_reducible refine s_eql ?_) | (with_reducible refine s_neq ?_) | ((with_reducible refine a_add64 ?h0 ?h1 ?_); (case h0 => omega); (case h1 => omega);  skip) | ((with_reducible refine a_sub64 ?h0 ?h1 ?_); (case h0 => omega); (case h1 => omega);  skip) | ((with_reducible refine a_mul64 ?h0 ?h1 ?_); (case h0 => omega); (case h1 => omega);  skip) | (with_reducible refine a_notd ?_) | (with_reducible refine a_not ?_) | (with_reducible refine a_ext0 ?_) | (with_reducible refine a_ext1 ?_) | (with_reducible refine a_ext2 ?_) | (with_reducible refine x_len ?_) | (with_reducible refine x_lens ?_) | (with_reducible refine x_eqb ?_) | (with_reducible refine x_neb ?_) | (with_reducible refine x_nilP ?_) | (with_reducible refine x_nilPn ?_) | (with_reducible refine x_nilF ?_) | (with_reducible refine x_nilFF ?_) | (with_reducible refine w_eqlL ?_) | (with_reducible refine w_neqL ?_) | (with_reducible refine s_eqlL ?_) | (with_reducible refine ifnt ?_) | (with_reducible refine ifnf ?_) | (with_reducible refine x_eqB ?_) | (with_reducible refine x_neB ?_) | (with_reducible refine x_lssL ?_) | (with_reducible refine x_gtrL ?_) | (with_reducible refine x_geqL ?_) | (with_reducible refine s_neqL ?_) | (with_reducible refine St.load h ?_) | (with_reducible refine St.loadS h ?_) | (with_reducible refine a_fld0 ?_) | (with_reducible refine St.store h fun W h => ?_) | (with_reducible refine St.storeS h fun W h => ?_) | (with_reducible refine St.alloc h fun b W h => ?_) | (with_reducible refine St.allocS h fun b W h => ?_) | (with_reducible refine a_nil ?_) | (with_reducible refine ss_load ?_) | (with_reducible refine ss_loadS ?_) | (with_reducible refine ss_eqb ?_)))
    refine ifd_neg (by decide) ?_
    (repeat (first | (with_reducible refine ift ?_) | (with_reducible refine iff' ?_) | (with_reducible refine a_lss ?_) | (with_reducible refine a_leq ?_) | (with_reducible refine a_gtr ?_) | (with_reducible refine a_geq ?_) | (with_reducible refine w_eql ?_) | (with_reducible refine w_neq ?_) | (with_reducible refine s_eql ?_) | (with_reducible refine s_neq ?_) | ((with_reducible refine a_add64 ?h0 ?h1 ?_); (case h0 => omega); (case h1 => omega);  skip) | ((with_reducible refine a_sub64 ?h0 ?h1 ?_); (case h0 => omega); (case h1 => omega);  skip) | ((with_reducible refine a_mul64 ?h0 ?h1 ?_); (case h0 => omega); (case h1 => omega);  skip) | (with_reducible refine a_notd ?_) | (with_reducible refine a_not ?_) | (with_reducible refine a_ext0 ?_) | (with_reducible refine a_ext1 ?_) | (with_reducible refine a_ext2 ?_) | (with_reducible refine x_len ?_) | (with_reducible refine x_lens ?_) | (with_reducible refine x_eqb ?_) | (with_reducible refine x_neb ?_) | (with_reducible refine x_nilP ?_) | (with_reducible refine x_nilPn ?_) | (with_reducible refine x_nilF ?_) | (with_reducible refine x_nilFF ?_) | (with_reducible refine w_eqlL ?_) | (with_reducible refine w_neqL ?_) | (with_reducible refine s_eqlL ?_) | (with_reducible refine ifnt ?_) | (with_reducible refine ifnf ?_) | (with_reducible refine x_eqB ?_) | (with_reducible refine x_neB ?_) | (with_reducible refine x_lssL ?_) | (with_reducible refine x_gtrL ?_) | (with_reducible refine x_geqL ?_) | (with_reducible refine s_neqL ?_) | (with_reducible refine St.load h ?_) | (with_reducible refine St.loadS h ?_) | (with_reducible refine a_fld0 ?_) | (with_reducible refine St.store h fun W h => ?_) | (with_reducible refine St.storeS h fun W h => ?_) | (with_reducible refine St.alloc h fun b W h => ?_) | (with_reducible refine St.allocS h fun b W h => ?_) | (with_reducible refine a_nil ?_) | (with_reducible refine ss_load ?_) | (with_reducible refine ss_loadS ?_) | (with_reducible refine ss_eqb ?_)))
    refine ifd_pos rfl ?_
    (repeat (first | (with_reducible refine ift ?_) | (with_reducible refine iff' ?_) | (with_reducible refine a_lss ?_) | (with_reducible refine a_leq ?_) | (with_reducible refine a_gtr ?_) | (with_reducible refine a_geq ?_) | (with_reducible refine w_eql ?_) | (with_reducible refine w_neq ?_) | (with_reducible refine s_eql ?_) | (with_reducible refine s_neq ?_) | ((with_reducible refine a_add64 ?h0 ?h1 ?_); (case h0 => omega); (case h1 => omega);  skip) | ((with_reducible refine a_sub64 ?h0 ?h1 ?_); (case h0 => omega); (case h1 => omega);  skip) | ((with_reducible refine a_mul64 ?h0 ?h1 ?_); (case h0 => omega); (case h1 => omega);  skip) | (with_reducible refine a_notd ?_) | (with_reducible refine a_not ?_) | (with_reducible refine a_ext0 ?_) | (with_reducible refine a_ext1 ?_) | (with_reducible refine a_ext2 ?_) | (with_reducible refine x_len ?_) | (with_reducible refine x_lens ?_) | (with_reducible refine x_eqb ?_) | (with_reducible refine x_neb ?_) | (with_reducible refine x_nilP ?_) | (with_reducible refine x_nilPn ?_) | (with_reducible refine x_nilF ?_) | (with_reducible refine x_nilFF ?_) | (with_reducible refine w_eqlL ?_) | (with_reducible refine w_neqL ?_) | (with_reducible refine s_eqlL ?_) | (with_reducible refine ifnt ?_) | (with_reducible refine ifnf ?_) | (with_reducible refine x_eqB ?_) | (with_reducible refine x_neB ?_) | (with_reducible refine x_lssL ?_) | (with_reducible refine x_gtrL ?_) | (with_reducible refine x_geqL ?_) | (with_reducible refine s_neqL ?_) | (with_reducible refine St.load h ?_) | (with_reducible refine St.loadS h ?_) | (with_reducible refine a_fld0 ?_) | (with_reducible refine St.store h fun W h => ?_) | (with_reducible refine St.storeS h fun W h => ?_) | (with_reducible refine St.alloc h fun b W h => ?_) | (with_reducible refine St.allocS h fun b W h => ?_) | (with_reducible refine a_nil ?_) | (with_reducible refine ss_load ?_) | (with_reducible refine ss_loadS ?_) | (with_reducible refine ss_eqb ?_)))
    refine h.mapDel (b := b) fun W1 h => ?_
    (repeat (first | (with_reducible refine ift ?_) | (with_reducible refine iff' ?_) | (with_reducible refine a_lss ?_) | (with_reducible refine a_leq ?_) | (with_reducible refine a_gtr ?_) | (with_reducible refine a_geq ?_) | (with_reducible refine w_eql ?_) | (with_reducible refine w_neq ?_) | (with_reducible refine s_eql ?_) | (with_reducible refine s_neq ?_) | ((with_reducible refine a_add64 ?h0 ?h1 ?_); (case h0 => omega); (case h1 => omega);  skip) | ((with_reducible refine a_sub64 ?h0 ?h1 ?_); (case h0 => omega); (case h1 => omega);  skip) | ((with_reducible refine a_mul64 ?h0 ?h1 ?_); (case h0 => omega); (case h1 => omega);  skip) | (with_reducible refine a_notd ?_) | (with_reducible refine a_not ?_) | (with_reducible refine a_ext0 ?_) | (with_reducible refine a_ext1 ?_) | (with_reducible refine a_ext2 ?_) | (with_reducible refine x_len ?_) | (with_reducible refine x_lens ?_) | (with_reducible refine x_eqb ?_) | (with_reducible refine x_neb ?_) | (with_reducible refine x_nilP ?_) | (with_reducible refine x_nilPn ?_) | (with_reducible refine x_nilF ?_) | (with_reducible refine x_nilFF ?_) | (with_reducible refine w_eqlL ?_) | (with_reducible refine w_neqL ?_) | (with_reducible refine s_eqlL ?_) | (with_reducible refine ifnt ?_) | (with_reducible refine ifnf ?_) | (with_reducible refine x_eqB ?_) | (with_reducible refine x_neB ?_) | (with_reducible refine x_lssL ?_) | (with_reducible refine x_gtrL ?_) | (with_reducible refine x_geqL ?_) | (with_reducible refine s_neqL ?_) | (with_reducible refine St.load h ?_) | (with_reducible refine St.loadS h ?_) | (with_reducible refine a_fld0 ?_) | (with_reducible refine St.store h fun W h => ?_) | (with_reducible refine St.storeS h fun W h => ?_) | (with_reducible refine St.alloc h fun b W h => ?_) | (with_reducible refine St.allocS h fun b W h => ?_) | (with_reducible refine a_nil ?_) | (with_reducible refine ss_load ?_) | (with_reducible refine ss_loadS ?_) | (with_reducible refine ss_eqb ?_)))
    refine h.mapPut (b := b) (x := gt key m) hv fun W3 h => ?_
    exact k _ W3 (fun _ h => h) (show St w0 G (Ky b (Mg zs (putK to (gt key m) (delK key m))) :: Ky PoolK.a (Pl zs) :: R) W3 from h.to)
  | takes key =>
    simp only [chC] at h
    (repeat (first | (with_reducible refine ift ?_) | (with_reducible refine iff' ?_) | (with_reducible refine a_lss ?_) | (with_reducible refine a_leq ?_) | (with_reducible refine a_gtr ?_) | (with_reducible refine a_geq ?_) | (with_reducible refine w_eql ?_) | (with_reducible refine w_neq ?_) | (with_reducible refine s_eql ?_) | (with_reducible refine s_neq ?_) | ((with_reducible refine a_add64 ?h0 ?h1 ?_); (case h0 => omega); (case h1 => omega);  skip) | ((with_reducible refine a_sub64 ?h0 ?h1 ?_); (case h0 => omega); (case h1 => omega);  skip) | ((with_reducible refine a_mul64 ?h0 ?h1 ?_); (case h0 => omega); (case h1 => omega);  skip) | (with_reducible refine a_notd ?_) | (with_reducible refine a_not ?_) | (with_reducible refine a_ext0 ?_) | (with_reducible refine a_ext1 ?_) | (with_reducible refine a_ext2 ?_) | (with_reducible refine x_len ?_) | (with_reducible refine x_lens ?_) | (with_reducible refine x_eqb ?_) | (with_reducible refine x_neb ?_) | (with_reducible refine x_nilP ?_) | (with_reducible refine x_nilPn ?_) | (with_reducible refine x_nilF ?_) | (with_reducible refine x_nilFF ?_) | (with_reducible refine w_eqlL ?_) | (with_reducible refine w_neqL ?_) | (with_reducible refine s_eqlL ?_) | (with_reducible refine ifnt ?_) | (with_reducible refine ifnf ?_) | (with_reducible refine x_eqB ?_) | (with_reducible refine x_neB ?_) | (with_reducible refine x_lssL ?_) | (with_reducible refine x_gtrL ?_) | (with_reducible refine x_geqL ?_) | (with_reducible refine s_neqL ?_) | (with_reducible refine St.load h ?_) | (with_reducible refine St.loadS h ?_) | (with_reducible refine a_fld0 ?_) | (with_reducible refine St.store h fun W h => ?_) | (with_reducible refine St.storeS h fun W h => ?_) | (with_reducible refine St.alloc h fun b W h => ?_) | (with_reducible refine St.allocS h fun b W h => ?_) | (with_reducible refine a_nil ?_) | (with_reducible refine ss_load ?_) | (with_reducible refine ss_loadS ?_) | (with_reducible refine ss_eqb ?_)))
    refine h.look (b := b) fun v hv => ?_
    (repeat (first | (with_reducible refine ift ?_) | (with_reducible refine iff' ?_) | (with_reducible refine a_lss ?_) | (with_reducible refine a_leq ?_) | (with_reducible refine a_gtr ?_) | (with_reducible refine a_geq ?_) | (with_reducible refine w_eql ?_) | (with_reducible refine w_neq ?_) | (with_reducible refine s_eql ?_) | (with_reducible refine s_neq ?_) | ((with_reducible refine a_add64 ?h0 ?h1 ?_); (case h0 => omega); (case h1 => omega);  skip) | ((with_reducible refine a_sub64 ?h0 ?h1 ?_); (case h0 => omega); (case h1 => omega);  skip) | ((with_reducible refine a_mul64 ?h0 ?h1 ?_); (case h0 => omega); (case h1 => omega);  skip) | (with_reducible refine a_notd ?_) | (with_reducible refine a_not ?_) | (with_reducible refine a_ext0 ?_) | (with_reducible refine a_ext1 ?_) | (with_reducible refine a_ext2 ?_) | (with_reducible refine x_len ?_) | (with_reducible refine x_lens ?_) | (with_reducible refine x_eqb ?_) | (with_reducible refine x_neb ?_) | (with_reducible refine x_nilP ?_) | (with_reducible refine x_nilPn ?_) | (with_reducible refine x_nilF ?_) | (with_reducible refine x_nilFF ?_) | (with_reducible refine w_eqlL ?_) | (with_reducible refine w_neqL ?_) | (with_reducible refine s_eqlL ?_) | (with_reducible refine ifnt ?_) | (with_reducible refine ifnf ?_) | (with_reducible refine x_eqB ?_) | (with_reducible refine x_neB ?_) | (with_reducible refine x_lssL ?_) | (with_reducible refine x_gtrL ?_) | (with_reducible refine x_geqL ?_) | (with_reducible refine s_neqL ?_) | (with_reducible refine St.load h ?_) | (with_reducible refine St.loadS h ?_) | (with_reducible refine a_fld0 ?_) | (with_reducible refine St.store h fun W h => ?_) | (with_reducible refine St.storeS h fun W h => ?_) | (with_reducible refine St.alloc h fun b W h => ?_) | (with_reducible refine St.allocS h fun b W h => ?_) | (with_reducible refine a_nil ?_) | (with_reducible refine ss_load ?_) | (with_reducible refine ss_loadS ?_) | (with_reducible refine ss_eqb ?_)))
    refine ifd_neg (by decide) ?_
    (repeat (first | (with_reducible refine ift ?_) | (with_reducible refine iff' ?_) | (with_reducible refine a_lss ?_) | (with_reducible refine a_leq ?_) | (with_reducible refine a_gtr ?_) | (with_reducible refine a_geq ?_) | (with_reducible refine w_eql ?_) | (with_reducible refine w_neq ?_) | (with_reducible refine s_eql ?_) | (with_reducible refine s_neq ?_) | ((with_reducible refine a_add64 ?h0 ?h1 ?_); (case h0 => omega); (case h1 => omega);  skip) | ((with_reducible refine a_sub64 ?h0 ?h1 ?_); (case h0 => omega); (case h1 => omega);  skip) | ((with_reducible refine a_mul64 ?h0 ?h1 ?_); (case h0 => omega); (case h1 => omega);  skip) | (with_reducible refine a_notd ?_) | (with_reducible refine a_not ?_) | (with_reducible refine a_ext0 ?_) | (with_reducible refine a_ext1 ?_) | (with_reducible refine a_ext2 ?_) | (with_reducible refine x_len ?_) | (with_reducible refine x_lens ?_) | (with_reducible refine x_eqb ?_) | (with_reducible refine x_neb ?_) | (with_reducible refine x_nilP ?_) | (with_reducible refine x_nilPn ?_) | (with_reducible refine x_nilF ?_) | (with_reducible refine x_nilFF ?_) | (with_reducible refine w_eqlL ?_) | (with_reducible refine w_neqL ?_) | (with_reducible refine s_eqlL ?_) | (with_reducible refine ifnt ?_) | (with_reducible refine ifnf ?_) | (with_reducible refine x_eqB ?_) | (with_reducible refine x_neB ?_) | (with_reducible refine x_lssL ?_) | (with_reducible refine x_gtrL ?_) | (with_reducible refine x_geqL ?_) | (with_reducible refine s_neqL ?_) | (with_reducible refine St.load h ?_) | (with_reducible refine St.loadS h ?_) | (with_reducible refine a_fld0 ?_) | (with_reducible refine St.store h fun W h => ?_) | (with_reducible refine St.storeS h fun W h => ?_) | (with_reducible refine St.alloc h fun b W h => ?_) | (with_reducible refine St.allocS h fun b W h => ?_) | (with_reducible refine a_nil ?_) | (with_reducible refine ss_load ?_) | (with_reducible refine ss_loadS ?_) | (with_reducible refine ss_eqb ?_)))
    refine ifd_neg (by decide) ?_
    (repeat (first | (with_reducible refine ift ?_) | (with_reducible refine iff' ?_) | (with_reducible refine a_lss ?_) | (with_reducible refine a_leq ?_) | (with_reducible refine a_gtr ?_) | (with_reducible refine a_geq ?_) | (with_reducible refine w_eql ?_) | (with_reducible refine w_neq ?_) | (with_reducible refine s_eql ?_) | (with_reducible refine s_neq ?_) | ((with_reducible refine a_add64 ?h0 ?h1 ?_); (case h0 => omega); (case h1 => omega);  skip) | ((with_reducible refine a_sub64 ?h0 ?h1 ?_); (case h0 => omega); (case h1 => omega);  skip) | ((with_reducible refine a_mul64 ?h0 ?h1 ?_); (case h0 => omega); (case h1 => omega);  skip) | (with_reducible refine a_notd ?_) | (with_reducible refine a_not ?_) | (with_reducible refine a_ext0 ?_) | (with_reducible refine a_ext1 ?_) | (with_reducible refine a_ext2 ?_) | (with_reducible refine x_len ?_) | (with_reducible refine x_lens ?_) | (with_reducible refine x_eqb ?_) | (with_reducible refine x_neb ?_) | (with_reducible refine x_nilP ?_) | (with_reducible refine x_nilPn ?_) | (with_reducible refine x_nilF ?_) | (with_reducible refine x_nilFF ?_) | (with_reducible refine w_eqlL ?_) | (with_reducible refine w_neqL ?_) | (with_reducible refine s_eqlL ?_) | (with_reducible refine ifnt ?_) | (with_reducible refine ifnf ?_) | (with_reducible refine x_eqB ?_) | (with_reducible refine x_neB ?_) | (with_reducible refine x_lssL ?_) | (with_reducible refine x_gtrL ?_) | (with_reducible refine x_geqL ?_) | (with_reducible refine s_neqL ?_) | (with_reducible refine St.load h ?_) | (with_reducible refine St.loadS h ?_) | (with_reducible refine a_fld0 ?_) | (with_reducible refine St.store h fun W h => ?_) | (with_reducible refine St.storeS h fun W h => ?_) | (with_reducible refine St.alloc h fun b W h => ?_) | (with_reducible refine St.allocS h fun b W h => ?_) | (with_reducible refine a_nil ?_) | (with_reducible refine ss_load ?_) | (with_reducible refine ss_loadS ?_) | (with_reducible refine ss_eqb ?_)))
    refine ifd_neg (by decide) ?_
    (repeat (first | (with_reducible refine ift ?_) | (with_reducible refine iff' ?_) | (with_reducible refine a_lss ?_) | (with_reducible refine a_leq ?_) | (with_reducible refine a_gtr ?_) | (with_reducible refine a_geq ?_) | (with_reducible refine w_eql ?_) | (with_reducible refine w_neq ?_) | (with_reducible refine s_eql ?_) | (with_reducible refine s_neq ?_) | ((with_reducible refine a_add64 ?h0 ?h1 ?_); (case h0 => omega); (case h1 => omega);  skip) | ((with_reducible refine a_sub64 ?h0 ?h1 ?_); (case h0 => omega); (case h1 => omega);  skip) | ((with_reducible refine a_mul64 ?h0 ?h1 ?_); (case h0 => omega); (case h1 => omega);  skip) | (with_reducible refine a_notd ?_) | (with_reducible refine a_not ?_) | (with_reducible refine a_ext0 ?_) | (with_reducible refine a_ext1 ?_) | (with_reducible refine a_ext2 ?_) | (with_reducible refine x_len ?_) | (with_reducible refine x_lens ?_) | (with_reducible refine x_eqb ?_) | (with_reducible refine x_neb ?_) | (with_reducible refine x_nilP ?_) | (with_reducible refine x_nilPn ?_) | (with_reducible refine x_nilF ?_) | (with_reducible refine x_nilFF ?_) | (with_reducible refine w_eqlL ?_) | (with_reducible refine w_neqL ?_) | (with_reducible refine s_eqlL ?_) | (with_reducible refine ifnt ?_) | (with_reducible refine ifnf ?_) | (with_reducible refine x_eqB ?_) | (with_reducible refine x_neB ?_) | (with_reducible refine x_lssL ?_) | (with_reducible refine x_gtrL ?_) | (with_reducible refine x_geqL ?_) | (with_reducible refine s_neqL ?_) | (with_reducible refine St.load h ?_) | (with_reducible refine St.loadS h ?_) | (with_reducible refine a_fld0 ?_) | (with_reducible refine St.store h fun W h => ?_) | (with_reducible refine St.storeS h fun W h => ?_) | (with_reducible refine St.alloc h fun b W h => ?_) | (with_reducible refine St.allocS h fun b W h => ?_) | (with_reducible refine a_nil ?_) | (with_reducible refine ss_load ?_) | (with_reducible refine ss_loadS ?_) | (with_reducible refine ss_eqb ?_)))
    refine ifd_pos rfl ?_
    (repeat (first | (with_reducible refine ift ?_) | (with_reducible refine iff' ?_) | (with_reducible refine a_lss ?_) | (with_reducible refine a_leq ?_) | (with_reducible refine a_gtr ?_) | (with_reducible refine a_geq ?_) | (with_reducible refine w_eql ?_) | (with_reducible refine w_neq ?_) | (with_reducible refine s_eql ?_) | (with_reducible refine s_neq ?_) | ((with_reducible refine a_add64 ?h0 ?h1 ?_); (case h0 => omega); (case h1 => omega);  skip) | ((with_reducible refine a_sub64 ?h0 ?h1 ?_); (case h0 => omega); (case h1 => omega);  skip) | ((with_reducible refine a_mul64 ?h0 ?h1 ?_); (case h0 => omega); (case h1 => omega);  skip) | (with_reducible refine a_notd ?_) | (with_reducible refine a_not ?_) | (with_reducible refine a_ext0 ?_) | (with_reducible refine a_ext1 ?_) | (with_reducible refine a_ext2 ?_) | (with_reducible refine x_len ?_) | (with_reducible refine x_lens ?_) | (with_reducible refine x_eqb ?_) | (with_reducible refine x_neb ?_) | (with_reducible refine x_nilP ?_) | (with_reducible refine x_nilPn ?_) | (with_reducible refine x_nilF ?_) | (with_reducible refine x_nilFF ?_) | (with_reducible refine w_eqlL ?_) | (with_reducible refine w_neqL ?_) | (with_reducible refine s_eqlL ?_) | (with_reducible refine ifnt ?_) | (with_reducible refine ifnf ?_) | (with_reducible refine x_eqB ?_) | (with_reducible refine x_neB ?_) | (with_reducible refine x_lssL ?_) | (with_reducible refine x_gtrL ?_) | (with_reducible refine x_geqL ?_) | (with_reducible refine s_neqL ?_) | (with_reducible refine St.load h ?_) | (with_reducible refine St.loadS h ?_) | (with_reducible refine a_fld0 ?_) | (with_reducible refine St.store h fun W h => ?_) | (with_reducible refine St.storeS h fun W h => ?_) | (with_reducible refine St.alloc h fun b W h => ?_) | (with_reducible refine St.allocS h fun b W h => ?_) | (with_reducible refine a_nil ?_) | (with_reducible refine ss_load ?_) | (with_reducible refine ss_loadS ?_) | (with_reducible refine ss_eqb ?_)))
    refine h.mapDel (b := b) fun W1 h => ?_
    exact k _ W1 (fun _ h => h) (show St w0 G (Ky b (Mg zs (delK key m)) :: Ky PoolK.a (Pl zs) :: R) W1 from h.to)
/-- name -/
theorem name_spec {s : Txt} (hl : s.length ≤ 1000000000) (k : RR (.bool (okN s)) W) : CallF Try.prog 69 #[strV s] W RR := by
  refine sh69_calls ?_
  unfold sh69
  refine x_len ?_
  refine lpx (α := Nat) (fun i => [nV .i64 i]) (fun i W' => W' = W ∧ i ≤ s.length ∧ (s.take i).all okC = true) (fun i => s.length - i) 0 (fun _ => rfl) rfl ⟨rfl, Nat.zero_le _, rfl⟩ ?_
  rintro next i W' hnext ⟨rfl, hi, hall⟩
  refine app1 ?_
  refine a_lss (ifd (fun hc => ?_) fun hc => ?_)
  · have hil : i < s.length := by omega
    obtain ⟨c, hc0⟩ : ∃ c, s[i]? = some c := ⟨_, List.getElem?_eq_getElem hil⟩
    refine x_index hc0 ?_
    have no : okC c = false → RR (.bool false) W' := fun h => by
      have : okN s = false := by
        unfold okN
        have : s.all okC = false := by
          rw [List.all_eq_false]
          exact ⟨c, List.mem_of_getElem? hc0, by rw [h]; simp⟩
        rw [this]; rfl
      rw [this] at k; exact k
    have yes : okC c = true → appN 1 next [nV .i64 (i + 1)] W' := fun h => by
      refine hnext (i + 1) W' (by omega) ⟨rfl, by omega, ?_⟩
      rw [List.take_add_one, hc0, List.all_append, hall]
      simp [h]
    refine jni (fun vs W2 => W2 = W' ∧ okC c = true ∧ vs = [strV s, nV .i64 s.length, nV .i64 i]) ?_ ?_
    · rintro vs W2 _ ⟨rfl, hy, rfl⟩
      refine app3 ?_
      refine a_add64 (by omega) (by omega) ?_
      rw [show ((i : Int) + 1) = ((i + 1 : Nat) : Int) by push_cast; rfl]
      exact ⟨rfl, rfl, yes hy⟩
    · have hd : okC c = ((decide (97 ≤ c.toNat) && decide (c.toNat ≤ 122)) || (decide (48 ≤ c.toNat) && decide (c.toNat ≤ 57)) || c == 46 || c == 45) := rfl
      have tail : (decide (97 ≤ c.toNat) && decide (c.toNat ≤ 122)) = false → (decide (48 ≤ c.toNat) && decide (c.toNat ≤ 57)) = false → RunW Try.prog (bin .eql 5 (.tmp 28) (.const (.int .u8 46)) (byteV c) (.int .u8 46)) W' fun t29 =>
          IfB t29 (RunA Try.prog (Op.unary .not (.bool true)) fun t35 => IfB t35 (RR (.bool false) W') (lamN 3 (fun vs W2 => W2 = W' ∧ okC c = true ∧ vs = [strV s, nV .i64 s.length, nV .i64 i]) (strV s) (nV .i64 s.length) (nV .i64 i) W'))
          (RunW Try.prog (bin .eql 5 (.tmp 32) (.const (.int .u8 45)) (byteV c) (.int .u8 45)) W' fun t33 => RunA Try.prog (Op.unary .not t33) fun t35 => IfB t35 (RR (.bool false) W') (lamN 3 (fun vs W2 => W2 = W' ∧ okC c = true ∧ vs = [strV s, nV .i64 s.length, nV .i64 i]) (strV s) (nV .i64 s.length) (nV .i64 i) W')) := by
        intro e1 e2
        have hd2 : okC c = (c == 46 || c == 45) := by rw [hd, e1, e2]; rfl
        refine x_eqB (b := 46) (ifd (fun h46 => ?_) fun h46 => ?_)
        · refine a_not (ifnt ?_)
          exact ⟨rfl, by rw [hd2, h46]; rfl, rfl⟩
        · refine x_eqB (b := 45) ?_
          refine a_notd (ifd (fun h45 => no ?_) fun h45 => ?_)
          · rw [hd2]; simp [h46, h45]
          · exact ⟨rfl, by rw [hd2]; simp at h45; simp [h45], rfl⟩
      have two : (decide (97 ≤ c.toNat) && decide (c.toNat ≤ 122)) = false → RunA Try.prog (bin .geq 5 (.tmp 20) (.const (.int .u8 48)) (byteV c) (.int .u8 48)) fun t21 => IfB t21
          (RunA Try.prog (bin .leq 5 (.tmp 23) (.const (.int .u8 57)) (byteV c) (.int .u8 57)) fun t24 => IfB t24 (RunA Try.prog (Op.unary .not (.bool true)) fun t35 => IfB t35 (RR (.bool false) W') (lamN 3 (fun vs W2 => W2 = W' ∧ okC c = true ∧ vs = [strV s, nV .i64 s.length, nV .i64 i]) (strV s) (nV .i64 s.length) (nV .i64 i) W'))
            (RunW Try.prog (bin .eql 5 (.tmp 28) (.const (.int .u8 46)) (byteV c) (.int .u8 46)) W' fun t29 =>
          IfB t29 (RunA Try.prog (Op.unary .not (.bool true)) fun t35 => IfB t35 (RR (.bool false) W') (lamN 3 (fun vs W2 => W2 = W' ∧ okC c = true ∧ vs = [strV s, nV .i64 s.length, nV .i64 i]) (strV s) (nV .i64 s.length) (nV .i64 i) W'))
          (RunW Try.prog (bin .eql 5 (.tmp 32) (.const (.int .u8 45)) (byteV c) (.int .u8 45)) W' fun t33 => RunA Try.prog (Op.unary .not t33) fun t35 => IfB t35 (RR (.bool false) W') (lamN 3 (fun vs W2 => W2 = W' ∧ okC c = true ∧ vs = [strV s, nV .i64 s.length, nV .i64 i]) (strV s) (nV .i64 s.length) (nV .i64 i) W'))))
          (RunW Try.prog (bin .eql 5 (.tmp 28) (.const (.int .u8 46)) (byteV c) (.int .u8 46)) W' fun t29 =>
          IfB t29 (RunA Try.prog (Op.unary .not (.bool true)) fun t35 => IfB t35 (RR (.bool false) W') (lamN 3 (fun vs W2 => W2 = W' ∧ okC c = true ∧ vs = [strV s, nV .i64 s.length, nV .i64 i]) (strV s) (nV .i64 s.length) (nV .i64 i) W'))
          (RunW Try.prog (bin .eql 5 (.tmp 32) (.const (.int .u8 45)) (byteV c) (.int .u8 45)) W' fun t33 => RunA Try.prog (Op.unary .not t33) fun t35 => IfB t35 (RR (.bool false) W') (lamN 3 (fun vs W2 => W2 = W' ∧ okC c = true ∧ vs = [strV s, nV .i64 s.length, nV .i64 i]) (strV s) (nV .i64 s.length) (nV .i64 i) W'))) := by
        intro e1
        refine a_geq (ifd (fun h48 => ?_) fun h48 => tail e1 (by rw [decide_eq_false (by omega)]; rfl))
        refine a_leq (ifd (fun h57 => ?_) fun h57 => tail e1 (by rw [decide_eq_false (p := c.toNat ≤ 57) (by omega)]; simp))
        refine a_not (ifnt ⟨rfl, ?_, rfl⟩)
        rw [hd, decide_eq_true (p := 48 ≤ c.toNat) (by omega), decide_eq_true (p := c.toNat ≤ 57) (by omega)]; simp
      refine a_geq (ifd (fun h97 => ?_) fun h97 => two (by rw [decide_eq_false (by omega)]; rfl))
      refine a_leq (ifd (fun h122 => ?_) fun h122 => two (by rw [decide_eq_false (p := c.toNat ≤ 122) (by omega)]; simp))
      refine a_not (ifnt ⟨rfl, ?_, rfl⟩)
      rw [hd, decide_eq_true (p := 97 ≤ c.toNat) (by omega), decide_eq_true (p := c.toNat ≤ 122) (by omega)]; rfl
  · have hil : i = s.length := by omega
    subst hil
    rw [List.take_length] at hall
    have e0 : okN s = (decide (s ≠ []) && decide (s.length ≤ 40)) := by unfold okN; rw [hall]; rfl
    rw [e0] at k
    refine w_neqL (b := []) (ifd (fun hc => ?_) fun hc => ?_)
    · refine x_len (a_leq ?_)
      rw [decide_eq_true hc] at k
      have : decide (((s.length : Nat) : Int) ≤ 40) = decide (s.length ≤ 40) := decide_eq_decide.2 (by omega)
      rw [this]; exact k
    · rw [decide_eq_false hc] at k
      exact k
end
end Go.Proofs.Ytdoopdbfajgnjaa
