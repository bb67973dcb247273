/-
  FILES THAT FALL, the document's: names, a change done, its disk: made, crashed, called.
-/
import Derived.Test.YtdoopdbfajgnjaaDkL
namespace Go.Proofs.Ytdoopdbfajgnjaa
open Go Go.Ez Go.RowKit
set_option linter.unusedSimpArgs false
set_option linter.unusedVariables false
section
variable {w0 W : World} {l R R1 R2 R3 R4 R5 : List As} {zs zs' : Zs} {v : Value} {RR : Value → World → Prop} {fs : List Fl} {s : Txt} {d : Dd}
/-- name -/
theorem namex_spec {s : Txt} (hl : s.length ≤ 1000000000) (k : RR (.bool (okN s)) W) : CallF Try.prog 79 #[strV s] W RR := by
  refine sh79_calls ?_
  unfold sh79
  refine lpx (α := Nat) (fun i => [nV .i64 i]) (fun i W' => W' = W ∧ i ≤ s.length ∧ (s.take i).all okC = true) (fun i => s.length - i) 0 (fun _ => rfl) rfl ⟨rfl, Nat.zero_le _, rfl⟩ ?_
  rintro next i W' hnext ⟨rfl, hi, hall⟩
  refine app1 ?_
  refine x_len (a_lss (ifd (fun hc => ?_) fun hc => ?_))
  · have hil : i < s.length := by omega
    obtain ⟨c, hc0⟩ : ∃ c, s[i]? = some c := ⟨_, List.getElem?_eq_getElem hil⟩
    refine x_index hc0 ?_
    have no : okC c = false → RR (.bool false) W' := fun h => by
      have : okN s = false := by
        unfold okN
        have : s.all okC = false := by
          rw [List.all_eq_false]
          exact ⟨c, List.mem_of_getElem? hc0, by rw [h]; simp⟩
        rw [this]; rfl
      rw [this] at k; exact k
    refine jni (fun vs W2 => W2 = W' ∧ okC c = true ∧ vs = [strV s, nV .i64 i]) ?_ ?_
    · rintro vs W2 _ ⟨rfl, hy, rfl⟩
      refine app2 ?_
      refine a_add64 (by omega) (by omega) ?_
      rw [show ((i : Int) + 1) = ((i + 1 : Nat) : Int) by push_cast; rfl]
      refine ⟨rfl, hnext (i + 1) W2 (by omega) ⟨rfl, by omega, ?_⟩⟩
      rw [List.take_add_one, hc0, List.all_append, hall]
      simp [hy]
    · have hd : okC c = ((decide (97 ≤ c.toNat) && decide (c.toNat ≤ 122)) || (decide (48 ≤ c.toNat) && decide (c.toNat ≤ 57)) || c == 46 || c == 45) := rfl
      have tail : (decide (97 ≤ c.toNat) && decide (c.toNat ≤ 122)) = false → (decide (48 ≤ c.toNat) && decide (c.toNat ≤ 57)) = false → RunW Try.prog (bin .neq 5 (.tmp 29) (.const (.int .u8 46)) (byteV c) (.int .u8 46)) W' fun t30 =>
          IfB t30 (RunW Try.prog (bin .neq 5 (.tmp 33) (.const (.int .u8 45)) (byteV c) (.int .u8 45)) W' fun t34 => IfB t34 (RR (.bool false) W') (lamN 2 (fun vs W2 => W2 = W' ∧ okC c = true ∧ vs = [strV s, nV .i64 i]) (strV s) (nV .i64 i) W')) (lamN 2 (fun vs W2 => W2 = W' ∧ okC c = true ∧ vs = [strV s, nV .i64 i]) (strV s) (nV .i64 i) W') := by
        intro e1 e2
        have hd2 : okC c = (c == 46 || c == 45) := by rw [hd, e1, e2]; rfl
        refine x_neB (b := 46) (ifd (fun h46 => ?_) fun h46 => ?_)
        · refine x_neB (b := 45) (ifd (fun h45 => no ?_) fun h45 => ?_)
          · rw [hd2]; simp [h46, h45]
          · exact ⟨rfl, by rw [hd2]; simp at h45; simp [h45], rfl⟩
        · exact ⟨rfl, by rw [hd2]; simp at h46; simp [h46], rfl⟩
      have two : (decide (48 ≤ c.toNat) && decide (c.toNat ≤ 57)) = false → RunA Try.prog (bin .lss 5 (.tmp 21) (.const (.int .u8 97)) (byteV c) (.int .u8 97)) fun t22 => IfB t22
          (RunW Try.prog (bin .neq 5 (.tmp 29) (.const (.int .u8 46)) (byteV c) (.int .u8 46)) W' fun t30 =>
          IfB t30 (RunW Try.prog (bin .neq 5 (.tmp 33) (.const (.int .u8 45)) (byteV c) (.int .u8 45)) W' fun t34 => IfB t34 (RR (.bool false) W') (lamN 2 (fun vs W2 => W2 = W' ∧ okC c = true ∧ vs = [strV s, nV .i64 i]) (strV s) (nV .i64 i) W')) (lamN 2 (fun vs W2 => W2 = W' ∧ okC c = true ∧ vs = [strV s, nV .i64 i]) (strV s) (nV .i64 i) W'))
          (RunA Try.prog (bin .gtr 5 (.tmp 24) (.const (.int .u8 122)) (byteV c) (.int .u8 122)) fun t25 => IfB t25
          (RunW Try.prog (bin .neq 5 (.tmp 29) (.const (.int .u8 46)) (byteV c) (.int .u8 46)) W' fun t30 =>
          IfB t30 (RunW Try.prog (bin .neq 5 (.tmp 33) (.const (.int .u8 45)) (byteV c) (.int .u8 45)) W' fun t34 => IfB t34 (RR (.bool false) W') (lamN 2 (fun vs W2 => W2 = W' ∧ okC c = true ∧ vs = [strV s, nV .i64 i]) (strV s) (nV .i64 i) W')) (lamN 2 (fun vs W2 => W2 = W' ∧ okC c = true ∧ vs = [strV s, nV .i64 i]) (strV s) (nV .i64 i) W')) (lamN 2 (fun vs W2 => W2 = W' ∧ okC c = true ∧ vs = [strV s, nV .i64 i]) (strV s) (nV .i64 i) W')) := by
        intro e1
        refine a_lss (ifd (fun h97 => tail (by rw [decide_eq_false (by omega)]; rfl) e1) fun h97 => ?_)
        refine a_gtr (ifd (fun h122 => tail (by rw [decide_eq_false (p := c.toNat ≤ 122) (by omega)]; simp) e1) fun h122 => ?_)
        refine ⟨rfl, ?_, rfl⟩
        rw [hd, decide_eq_true (p := 97 ≤ c.toNat) (by omega), decide_eq_true (p := c.toNat ≤ 122) (by omega)]; rfl
      refine a_lss (ifd (fun h48 => two (by rw [decide_eq_false (by omega)]; rfl)) fun h48 => ?_)
      refine a_gtr (ifd (fun h57 => two (by rw [decide_eq_false (p := c.toNat ≤ 57) (by omega)]; simp)) fun h57 => ?_)
      refine ⟨rfl, ?_, rfl⟩
      rw [hd, decide_eq_true (p := 48 ≤ c.toNat) (by omega), decide_eq_true (p := c.toNat ≤ 57) (by omega)]; simp
  · have hil : i = s.length := by omega
    subst hil
    rw [List.take_length] at hall
    have e0 : okN s = (decide (s ≠ []) && decide (s.length ≤ 40)) := by unfold okN; rw [hall]; rfl
    rw [e0] at k
    refine x_len (a_geq (ifd (fun hc => ?_) fun hc => ?_))
    · refine x_len (a_leq ?_)
      rw [decide_eq_true (p := s ≠ []) (fun hx => by rw [hx] at hc; simp at hc), Bool.true_and] at k
      have : decide (((s.length : Nat) : Int) ≤ 40) = decide (s.length ≤ 40) := decide_eq_decide.2 (by omega)
      rw [this]; exact k
    · rw [decide_eq_false (p := s ≠ []) (fun hx => hx (List.eq_nil_of_length_eq_zero (by omega)))] at k
      exact k
theorem insF_len {k : Nat} {p : Fl} {fs : List Fl} : (insF k p fs).length = fs.length + 1 := by
  unfold insF
  simp only [List.length_append, List.length_cons, List.length_take, List.length_drop]; omega
theorem outF_len (s : Txt) (fs : List Fl) : (outF s fs).length ≤ fs.length := List.length_filter_le _ _
/-- apply -/
theorem apply_spec {c : Chg} {sv : Sv} {lv : Value} [i : Has l lv (FO fs) R1] [j : Has R1 PoolK.a (Pl zs) R] (h : St w0 G0 l W) (hl : fs.length ≤ 900000) (hg : Gm (fs.map Prod.fst)) (hok : c.ok (fs.map Prod.fst)) (hk : FK zs fs) (hck : ChK zs (c, sv))
    (k : ∀ zs' v' fs' W', (∀ z ∈ zs, z ∈ zs') → Cel1 v' → fs'.map Prod.fst = c.app (fs.map Prod.fst) → FK zs' fs' → fs'.length ≤ fs.length + 1 → St w0 G0 (Ky v' (FO fs') :: Ky lv (FO fs) :: Ky PoolK.a (Pl zs') :: R) W' → RR v' W') : CallF Try.prog 80 #[lv, .agg (opxC (c, sv)).toArray] W RR := by
  refine sh80_calls ?_
  unfold sh80
  replace h := has2 (k := lv) (k' := PoolK.a) h
  refine h.boxS (cs := opxC (c, sv)) fun bx W h => ?_
  have htot := hg.tot
  have hgle : ∀ q, (gt q (fs.map Prod.fst)).length ≤ 1073741824 := fun q => by have := gt_le (k := q) hg.srt; omega
  cases c with
  | puts key x =>
    simp only [opxC] at h
    have g0 := hgle key
    have hok' : tot (fs.map Prod.fst) + x.length ≤ 1073741824 := hok
    (repeat (first | (with_reducible refine ift ?_) | (with_reducible refine iff' ?_) | (with_reducible refine a_lss ?_) | (with_reducible refine a_leq ?_) | (with_reducible refine a_gtr ?_) | (with_reducible refine a_geq ?_) | (with_reducible refine w_eql ?_) | (with_reducible refine w_neq ?_) | (with_reducible refine s_eql ?_) | (with_reducible refine s_neq ?_) | ((with_reducible refine a_add64 ?h0 ?h1 ?_); (case h0 => omega); (case h1 => omega);  skip) | ((with_reducible refine a_sub64 ?h0 ?h1 ?_); (case h0 => omega); (case h1 => omega);  skip) | ((with_reducible refine a_mul64 ?h0 ?h1 ?_); (case h0 => omega); (case h1 => omega);  skip) | (with_reducible refine a_notd ?_) | (with_reducible refine a_not ?_) | (with_reducible refine a_ext0 ?_) | (with_reducible refine a_ext1 ?_) | (with_reducible refine a_ext2 ?_) | (with_reducible refine x_len ?_) | (with_reducible refine x_lens ?_) | (with_reducible refine x_eqb ?_) | (with_reducible refine x_neb ?_) | (with_reducible refine x_nilP ?_) | (with_reducible refine x_nilPn ?_) | (with_reducible refine x_nilF ?_) | (with_reducible refine x_nilFF ?_) | (with_reducible refine w_eqlL ?_) | (with_reducible refine w_neqL ?_) | (with_reducible refine s_eqlL ?_) | (with_reducible refine ifnt ?_) | (with_reducible refine ifnf ?_) | (with_reducible refine x_eqB ?_) | (with_reducible refine x_neB ?_) | (with_reducible refine x_lssL ?_) | (with_reducible refine x_gtrL ?_) | (with_reducible refine x_geqL ?_) | (with_reducible refine s_neqL ?_) | (with_reducible refine St.load h ?_) | (with_reducible refine St.loadS h ?_) | (with_reducible refine a_fld0 ?_) | (with_reducible refine St.store h fun W h => ?_) | (with_reducible refine St.storeS h fun W h => ?_) | (with_reducible refine St.alloc h fun b W h => ?_) | (with_reducible refine St.allocS h fun b W h => ?_) | (with_reducible refine a_nil ?_) | (with_reducible refine ss_load ?_) | (with_reducible refine ss_loadS ?_) | (with_reducible refine ss_eqb ?_)))
    refine ifd_pos rfl ?_
    replace h := h.drew
    refine ⟨fun w => Rec w bx 105 [.int .i64 1, .int .i64 0, strV key, strV [], svV sv], h.rc, ?_⟩
    refine a_fld0 (s_ld (fun w hw => hw) rfl (a_fld0 (s_ld (fun w hw => hw) rfl (a_fld0 (s_ld (fun w hw => hw) rfl ?_)))))
    refine data_spec (s := key) (h.osl (v := lv)) rfl (by omega) hk fun v1 hv1 => ?_
    refine ⟨h.rc, ?_⟩
    refine copyBytes_spec (h.plGet .a hv1) (by omega) fun v2 W g1 g2 => ?_
    replace h := h.take g2 g1
    refine ⟨h.rc, ?_⟩
    refine h.app (v := v2) (h.plGet .a (show PlIn zs (svV sv) x from hck)) (bytesV_one x) (by unfold maxLen; omega) (by omega) fun v3 W o3 h _ => ?_
    refine ⟨h.rc, ?_⟩
    rw [← bytesV_append, ← List.length_append] at h
    obtain ⟨sv3, rfl⟩ := (show By W v3 (gt key (fs.map Prod.fst) ++ x) from h.osl (v := v3)).sv
    replace h := h.plAdd .a (v := svV sv3) (x := gt key (fs.map Prod.fst) ++ x) rfl rfl
    refine with_spec (sv := sv3) (s := key) (x := gt key (fs.map Prod.fst) ++ x) (h.osl (v := lv)) rfl (by omega) fun v4 W o4 h4 => ?_
    replace h := h.frame1 h4
    exact k ((svV sv3, gt key (fs.map Prod.fst) ++ x) :: zs) v4 (insF (posK key ((outF key fs).map Prod.fst)) ((key, gt key (fs.map Prod.fst) ++ x), sv3) (outF key fs)) W subZ o4 (insF_put hg.srt) (insF_fk (outF_fk (hk.sub subZ)) (.inl List.mem_cons_self)) (by rw [insF_len]; have := outF_len key fs; omega) h.to
  | cuts key n =>
    simp only [opxC] at h
    have g0 := hgle key
    have hok' : n ≤ (gt key (fs.map Prod.fst)).length := hok
    (repeat (first | (with_reducible refine ift ?_) | (with_reducible refine iff' ?_) | (with_reducible refine a_lss ?_) | (with_reducible refine a_leq ?_) | (with_reducible refine a_gtr ?_) | (with_reducible refine a_geq ?_) | (with_reducible refine w_eql ?_) | (with_reducible refine w_neq ?_) | (with_reducible refine s_eql ?_) | (with_reducible refine s_neq ?_) | ((with_reducible refine a_add64 ?h0 ?h1 ?_); (case h0 => omega); (case h1 => omega);  skip) | ((with_reducible refine a_sub64 ?h0 ?h1 ?_); (case h0 => omega); (case h1 => omega);  skip) | ((with_reducible refine a_mul64 ?h0 ?h1 ?_); (case h0 => omega); (case h1 => omega);  skip) | (with_reducible refine a_notd ?_) | (with_reducible refine a_not ?_) | (with_reducible refine a_ext0 ?_) | (with_reducible refine a_ext1 ?_) | (with_reducible refine a_ext2 ?_) | (with_reducible refine x_len ?_) | (with_reducible refine x_lens ?_) | (with_reducible refine x_eqb ?_) | (with_reducible refine x_neb ?_) | (with_reducible refine x_nilP ?_) | (with_reducible refine x_nilPn ?_) | (with_reducible refine x_nilF ?_) | (with_reducible refine x_nilFF ?_) | (with_reducible refine w_eqlL ?_) | (with_reducible refine w_neqL ?_) | (with_reducible refine s_eqlL ?_) | (with_reducible refine ifnt ?_) | (with_reducible refine ifnf ?_) | (with_reducible refine x_eqB ?_) | (with_reducible refine x_neB ?_) | (with_reducible refine x_lssL ?_) | (with_reducible refine x_gtrL ?_) | (with_reducible refine x_geqL ?_) | (with_reducible refine s_neqL ?_) | (with_reducible refine St.load h ?_) | (with_reducible refine St.loadS h ?_) | (with_reducible refine a_fld0 ?_) | (with_reducible refine St.store h fun W h => ?_) | (with_reducible refine St.storeS h fun W h => ?_) | (with_reducible refine St.alloc h fun b W h => ?_) | (with_reducible refine St.allocS h fun b W h => ?_) | (with_reducible refine a_nil ?_) | (with_reducible refine ss_load ?_) | (with_reducible refine ss_loadS ?_) | (with_reducible refine ss_eqb ?_)))
    refine ifd_neg (by decide) ?_
    (repeat (first | (with_reducible refine ift ?_) | (with_reducible refine iff' ?_) | (with_reducible refine a_lss ?_) | (with_reducible refine a_leq ?_) | (with_reducible refine a_gtr ?_) | (with_reducible refine a_geq ?_) | (with_reducible refine w_eql ?_) | (with_reducible refine w_neq ?_) | (with_reducible refine s_eql ?_) | (with_reducible refine s_neq ?_) | ((with_reducible refine a_add64 ?h0 ?h1 ?_); (case h0 => omega); (case h1 => omega);  skip) | ((with_reducible refine a_sub64 ?h0 ?h1 ?_); (case h0 => omega); (case h1 => omega);  skip) | ((with_reducible refine a_mul64 ?h0 ?h1 ?_); (case h0 => omega); (case h1 => omega);  skip) | (with_reducible refine a_notd ?_) | (with_reducible refine a_not ?_) | (with_reducible refine a_ext0 ?_) | (with_reducible refine a_ext1 ?_) | (with_reducible refine a_ext2 ?_) | (with_reducible refine x_len ?_) | (with_reducible refine x_lens ?_) | (with_reducible refine x_eqb ?_) | (with_reducible refine x_neb ?_) | (with_reducible refine x_nilP ?_) | (with_reducible refine x_nilPn ?_) | (with_reducible refine x_nilF ?_) | (with_reducible refine x_nilFF ?_) | (with_reducible refine w_eqlL ?_) | (with_reducible refine w_neqL ?_) | (with_reducible refine s_eqlL ?_) | (with_reducible refine ifnt ?_) | (with_reducible refine ifnf ?_) | (with_reducible refine x_eqB ?_) | (with_reducible refine x_neB ?_) | (with_reducible refine x_lssL ?_) | (with_reducible refine x_gtrL ?_) | (with_reducible refine x_geqL ?_) | (with_reducible refine s_neqL ?_) | (with_reducible refine St.load h ?_) | (with_reducible refine St.loadS h ?_) | (with_reducible refine a_fld0 ?_) | (with_reducible refine St.store h fun W h => ?_) | (with_reducible refine St.storeS h fun W h => ?_) | (with_reducible refine St.alloc h fun b W h => ?_) | (with_reducible refine St.allocS h fun b W h => ?_) | (with_reducible refine a_nil ?_) | (with_reducible refine ss_load ?_) | (with_reducible refine ss_loadS ?_) | (with_reducible refine ss_eqb ?_)))
    refine ifd_pos rfl ?_
    replace h := h.drew
    refine ⟨fun w => Rec w bx 105 [.int .i64 2, .int .i64 (n : Int), strV key, strV [], .slice none 0 0], h.rc, ?_⟩
    refine a_fld0 (s_ld (fun w hw => hw) rfl (a_fld0 (s_ld (fun w hw => hw) rfl (a_fld0 (s_ld (fun w hw => hw) rfl ?_)))))
    refine data_spec (s := key) (h.osl (v := lv)) rfl (by omega) hk fun v1 hv1 => ?_
    refine ⟨h.rc, ?_⟩
    have hby := h.plGet .a hv1
    refine a_sliceH elB hby (by omega) (by omega) fun v2 hv2 => ?_
    refine copyBytes_spec (By.cutP (by omega) (by omega) hv2) (by rw [List.length_take]; omega) fun v3 W g1 g2 => ?_
    replace h := h.take g2 g1
    rw [Int.toNat_natCast] at h
    refine ⟨h.rc, ?_⟩
    obtain ⟨sv3, rfl⟩ := (show By W v3 ((gt key (fs.map Prod.fst)).take n) from h.osl (v := v3)).sv
    replace h := h.plAdd .a (v := svV sv3) (x := (gt key (fs.map Prod.fst)).take n) rfl rfl
    refine with_spec (sv := sv3) (s := key) (x := (gt key (fs.map Prod.fst)).take n) (h.osl (v := lv)) rfl (by omega) fun v4 W o4 h4 => ?_
    replace h := h.frame1 h4
    exact k ((svV sv3, (gt key (fs.map Prod.fst)).take n) :: zs) v4 (insF (posK key ((outF key fs).map Prod.fst)) ((key, (gt key (fs.map Prod.fst)).take n), sv3) (outF key fs)) W subZ o4 (insF_put hg.srt) (insF_fk (outF_fk (hk.sub subZ)) (.inl List.mem_cons_self)) (by rw [insF_len]; have := outF_len key fs; omega) h.to
  | names key to =>
    simp only [opxC] at h
    (repeat (first | (with_reducible refine ift ?_) | (with_reducible refine iff' ?_) | (with_reducible refine a_lss ?_) | (with_reducible refine a_leq ?_) | (with_reducible refine a_gtr ?_) | (with_reducible refine a_geq ?_) | (with_reducible refine w_eql ?_) | (with_reducible refine w_neq ?_) | (with_reducible refine s_eql ?_) | (with_reducible refine s_neq ?_) | ((with_reducible refine a_add64 ?h0 ?h1 ?_); (case h0 => omega); (case h1 => omega);  skip) | ((with_reducible refine a_sub64 ?h0 ?h1 ?_); (case h0 => omega); (case h1 => omega);  skip) | ((with_reducible refine a_mul64 ?h0 ?h1 ?_); (case h0 => omega); (case h1 => omega);  skip) | (with_reducible refine a_notd ?_) | (with_reducible refine a_not ?_) | (with_reducible refine a_ext0 ?_) | (with_reducible refine a_ext1 ?_) | (with_reducible refine a_ext2 ?_) | (with_reducible refine x_len ?_) | (with_reducible refine x_lens ?_) | (with_reducible refine x_eqb ?_) | (with_reducible refine x_neb ?_) | (with_reducible refine x_nilP ?_) | (with_reducible refine x_nilPn ?_) | (with_reducible refine x_nilF ?_) | (with_reducible refine x_nilFF ?_) | (with_reducible refine w_eqlL ?_) | (with_reducible refine w_neqL ?_) | (with_reducible refine s_eqlL ?_) | (with_reducible refine ifnt ?_) | (with_reducible refine ifnf ?_) | (with_reducible refine x_eqB ?_) | (with_reducible refine x_neB ?_) | (with_reducible refine x_lssL ?_) | (with_reducible refine x_gtrL ?_) | (with_reducible refine x_geqL ?_) | (with_reducible refine s_neqL ?_) | (with_reducible refine St.load h ?_) | (with_reducible refine St.loadS h ?_) | (with_reducible refine a_fld0 ?_) | (with_reducible refine St.store h fun W h => ?_) | (with_reducible refine St.storeS h fun W h => ?_) | (with_reducible refine St.alloc h fun b W h => ?_) | (with_reducible refine St.allocS h fun b W h => ?_) | (with_reducible refine a_nil ?_) | (with_reducible refine ss_load ?_) | (with_reducible refine ss_loadS ?_) | (with_reducible refine ss_eqb ?_)))
    refine ifd_neg (by decide) ?_
    (repeat (first | (with_reducible refine ift ?_) | (with_reducible refine iff' ?_) | (with_reducible refine a_lss ?_) | (with_reducible refine a_leq ?_) | (with_reducible refine a_gtr ?_) | (with_reducible refine a_geq ?_) | (with_reducible refine w_eql ?_) | (with_reducible refine w_neq ?_) | (with_reducible refine s_eql ?_) | (with_reducible refine s_neq ?_) | ((with_reducible refine a_add64 ?h0 ?h1 ?_); (case h0 => omega); (case h1 => omega);  skip) | ((with_reducible refine a_sub64 ?h0 ?h1 ?_); (case h0 => omega); (case h1 => omega);  skip) | ((with_reducible refine a_mul64 ?h0 ?h1 ?_); (case h0 => omega); (case h1 => omega);  skip) | (with_reducible refine a_notd ?_) | (with_reducible refine a_not ?_) | (with_reducible refine a_ext0 ?_) | (with_reducible refine a_ext1 ?_) | (with_reducible refine a_ext2 ?_) | (with_reducible refine x_len ?_) | (with_reducible refine x_lens ?_) | (with_reducible refine x_eqb ?_) | (with_reducible refine x_neb ?_) | (with_reducible refine x_nilP ?_) | (with_reducible refine x_nilPn ?_) | (with_reducible refine x_nilF ?_) | (with_reducible refine x_nilFF ?_) | (with_reducible refine w_eqlL ?_) | (with_reducible refine w_neqL ?_) | (with_reducible refine s_eqlL ?_) | (with_reducible refine ifnt ?_) | (with_reducible refine ifnf ?_) | (with_reducible refine x_eqB ?_) | (with_reducible refine x_neB ?_) | (with_reducible refine x_lssL ?_) | (with_reducible refine x_gtrL ?_) | (with_reducible refine x_geqL ?_) | (with_reducible refine s_neqL ?_) | (with_reducible refine St.load h ?_) | (with_reducible refine St.loadS h ?_) | (with_reducible refine a_fld0 ?_) | (with_reducible refine St.store h fun W h => ?_) | (with_reducible refine St.storeS h fun W h => ?_) | (with_reducible refine St.alloc h fun b W h => ?_) | (with_reducible refine St.allocS h fun b W h => ?_) | (with_reducible refine a_nil ?_) | (with_reducible refine ss_load ?_) | (with_reducible refine ss_loadS ?_) | (with_reducible refine ss_eqb ?_)))
    refine ifd_neg (by decide) ?_
    (repeat (first | (with_reducible refine ift ?_) | (with_reducible refine iff' ?_) | (with_reducible refine a_lss ?_) | (with_reducible refine a_leq ?_) | (with_reducible refine a_gtr ?_) | (with_reducible refine a_geq ?_) | (with_reducible refine w_eql ?_) | (with_reducible refine w_neq ?_) | (with_reducible refine s_eql ?_) | (with_reducible refine s_neq ?_) | ((with_reducible refine a_add64 ?h0 ?h1 ?_); (case h0 => omega); (case h1 => omega);  skip) | ((with_reducible refine a_sub64 ?h0 ?h1 ?_); (case h0 => omega); (case h1 => omega);  skip) | ((with_reducible refine a_mul64 ?h0 ?h1 ?_); (case h0 => omega); (case h1 => omega);  skip) | (with_reducible refine a_notd ?_) | (with_reducible refine a_not ?_) | (with_reducible refine a_ext0 ?_) | (with_reducible refine a_ext1 ?_) | (with_reducible refine a_ext2 ?_) | (with_reducible refine x_len ?_) | (with_reducible refine x_lens ?_) | (with_reducible refine x_eqb ?_) | (with_reducible refine x_neb ?_) | (with_reducible refine x_nilP ?_) | (with_reducible refine x_nilPn ?_) | (with_reducible refine x_nilF ?_) | (with_reducible refine x_nilFF ?_) | (with_reducible refine w_eqlL ?_) | (with_reducible refine w_neqL ?_) | (with_reducible refine s_eqlL ?_) | (with_reducible refine ifnt ?_) | (with_reducible refine ifnf ?_) | (with_reducible refine x_eqB ?_) | (with_reducible refine x_neB ?_) | (with_reducible refine x_lssL ?_) | (with_reducible refine x_gtrL ?_) | (with_reducible refine x_geqL ?_) | (with_reducible refine s_neqL ?_) | (with_reducible refine St.load h ?_) | (with_reducible refine St.loadS h ?_) | (with_reducible refine a_fld0 ?_) | (with_reducible refine St.store h fun W h => ?_) | (with_reducible refine St.storeS h fun W h => ?_) | (with_reducible refine St.alloc h fun b W h => ?_) | (with_reducible refine St.allocS h fun b W h => ?_) | (with_reducible refine a_nil ?_) | (with_reducible refine ss_load ?_) | (with_reducible refine ss_loadS ?_) | (with_reducible refine ss_eqb ?_)))
    refine ifd_pos rfl ?_
    (repeat (first | (with_reducible refine ift ?_) | (with_reducible refine iff' ?_) | (with_reducible refine a_lss ?_) | (with_reducible refine a_leq ?_) | (with_reducible refine a_gtr ?_) | (with_reducible refine a_geq ?_) | (with_reducible refine w_eql ?_) | (with_reducible refine w_neq ?_) | (with_reducible refine s_eql ?_) | (with_reducible refine s_neq ?_) | ((with_reducible refine a_add64 ?h0 ?h1 ?_); (case h0 => omega); (case h1 => omega);  skip) | ((with_reducible refine a_sub64 ?h0 ?h1 ?_); (case h0 => omega); (case h1 => omega);  skip) | ((with_reducible refine a_mul64 ?h0 ?h1 ?_); (case h0 => omega); (case h1 => omega);  skip) | (with_reducible refine a_notd ?_) | (with_reducible refine a_not ?_) | (with_reducible refine a_ext0 ?_) | (with_reducible refine a_ext1 ?_) | (with_reducible refine a_ext2 ?_) | (with_reducible refine x_len ?_) | (with_reducible refine x_lens ?_) | (with_reducible refine x_eqb ?_) | (with_reducible refine x_neb ?_) | (with_reducible refine x_nilP ?_) | (with_reducible refine x_nilPn ?_) | (with_reducible refine x_nilF ?_) | (with_reducible refine x_nilFF ?_) | (with_reducible refine w_eqlL ?_) | (with_reducible refine w_neqL ?_) | (with_reducible refine s_eqlL ?_) | (with_reducible refine ifnt ?_) | (with_reducible refine ifnf ?_) | (with_reducible refine x_eqB ?_) | (with_reducible refine x_neB ?_) | (with_reducible refine x_lssL ?_) | (with_reducible refine x_gtrL ?_) | (with_reducible refine x_geqL ?_) | (with_reducible refine s_neqL ?_) | (with_reducible refine St.load h ?_) | (with_reducible refine St.loadS h ?_) | (with_reducible refine a_fld0 ?_) | (with_reducible refine St.store h fun W h => ?_) | (with_reducible refine St.storeS h fun W h => ?_) | (with_reducible refine St.alloc h fun b W h => ?_) | (with_reducible refine St.allocS h fun b W h => ?_) | (with_reducible refine a_nil ?_) | (with_reducible refine ss_load ?_) | (with_reducible refine ss_loadS ?_) | (with_reducible refine ss_eqb ?_)))
    refine data_spec (s := key) (h.osl (v := lv)) rfl (by omega) hk fun v1 hv1 => ?_
    obtain ⟨sv1, rfl⟩ := (h.plGet .a hv1).sv
    replace h := h.drew
    refine ⟨fun w => Rec w bx 105 [.int .i64 3, .int .i64 0, strV to, strV key, .slice none 0 0], h.rc, ?_⟩
    refine a_fld0 (s_ld (fun w hw => hw) rfl (a_fld0 (s_ld (fun w hw => hw) rfl ?_)))
    refine without_spec (s := key) (h.osl (v := lv)) rfl (by omega) fun u W ou h4 => ?_
    replace h := h.frame1 h4
    refine ⟨h.rc, ?_⟩
    have hol := outF_len key fs
    have hod := outF_del (s := key) hg.srt
    refine with_spec (sv := sv1) (s := to) (x := gt key (fs.map Prod.fst)) (h.osl (v := u)) rfl (by omega) fun v4 W o4 h5 => ?_
    replace h := h.frame1 h5
    have hp := insF_put (s := to) (x := gt key (fs.map Prod.fst)) (sv := sv1) (fs := outF key fs) (by rw [hod]; exact srt_del hg.srt)
    rw [hod] at hp
    exact k zs v4 (insF (posK to ((outF to (outF key fs)).map Prod.fst)) ((to, gt key (fs.map Prod.fst)), sv1) (outF to (outF key fs))) W (fun _ h => h) o4 hp (insF_fk (outF_fk (outF_fk hk)) hv1) (by rw [insF_len]; have := outF_len to (outF key fs); omega) h.to
  | takes key =>
    simp only [opxC] at h
    (repeat (first | (with_reducible refine ift ?_) | (with_reducible refine iff' ?_) | (with_reducible refine a_lss ?_) | (with_reducible refine a_leq ?_) | (with_reducible refine a_gtr ?_) | (with_reducible refine a_geq ?_) | (with_reducible refine w_eql ?_) | (with_reducible refine w_neq ?_) | (with_reducible refine s_eql ?_) | (with_reducible refine s_neq ?_) | ((with_reducible refine a_add64 ?h0 ?h1 ?_); (case h0 => omega); (case h1 => omega);  skip) | ((with_reducible refine a_sub64 ?h0 ?h1 ?_); (case h0 => omega); (case h1 => omega);  skip) | ((with_reducible refine a_mul64 ?h0 ?h1 ?_); (case h0 => omega); (case h1 => omega);  skip) | (with_reducible refine a_notd ?_) | (with_reducible refine a_not ?_) | (with_reducible refine a_ext0 ?_) | (with_reducible refine a_ext1 ?_) | (with_reducible refine a_ext2 ?_) | (with_reducible refine x_len ?_) | (with_reducible refine x_lens ?_) | (with_reducible refine x_eqb ?_) | (with_reducible refine x_neb ?_) | (with_reducible refine x_nilP ?_) | (with_reducible refine x_nilPn ?_) | (with_reducible refine x_nilF ?_) | (with_reducible refine x_nilFF ?_) | (with_reducible refine w_eqlL ?_) | (with_reducible refine w_neqL ?_) | (with_reducible refine s_eqlL ?_) | (with_reducible refine ifnt ?_) | (with_reducible refine ifnf ?_) | (with_reducible refine x_eqB ?_) | (with_reducible refine x_neB ?_) | (with_reducible refine x_lssL ?_) | (with_reducible refine x_gtrL ?_) | (with_reducible refine x_geqL ?_) | (with_reducible refine s_neqL ?_) | (with_reducible refine St.load h ?_) | (with_reducible refine St.loadS h ?_) | (with_reducible refine a_fld0 ?_) | (with_reducible refine St.store h fun W h => ?_) | (with_reducible refine St.storeS h fun W h => ?_) | (with_reducible refine St.alloc h fun b W h => ?_) | (with_reducible refine St.allocS h fun b W h => ?_) | (with_reducible refine a_nil ?_) | (with_reducible refine ss_load ?_) | (with_reducible refine ss_loadS ?_) | (with_reducible refine ss_eqb ?_)))
    refine ifd_neg (by decide) ?_
    (repeat (first | (with_reducible refine ift ?_) | (with_reducible refine iff' ?_) | (with_reducible refine a_lss ?_) | (with_reducible refine a_leq ?_) | (with_reducible refine a_gtr ?_) | (with_reducible refine a_geq ?_) | (with_reducible refine w_eql ?_) | (with_reducible refine w_neq ?_) | (with_reducible refine s_eql ?_) | (with_reducible refine s_neq ?_) | ((with_reducible refine a_add64 ?h0 ?h1 ?_); (case h0 => omega); (case h1 => omega);  skip) | ((with_reducible refine a_sub64 ?h0 ?h1 ?_); (case h0 => omega); (case h1 => omega);  skip) | ((with_reducible refine a_mul64 ?h0 ?h1 ?_); (case h0 => omega); (case h1 => omega);  skip) | (with_reducible refine a_notd ?_) | (with_reducible refine a_not ?_) | (with_reducible refine a_ext0 ?_) | (with_reducible refine a_ext1 ?_) | (with_reducible refine a_ext2 ?_) | (with_reducible refine x_len ?_) | (with_reducible refine x_lens ?_) | (with_reducible refine x_eqb ?_) | (with_reducible refine x_neb ?_) | (with_reducible refine x_nilP ?_) | (with_reducible refine x_nilPn ?_) | (with_reducible refine x_nilF ?_) | (with_reducible refine x_nilFF ?_) | (with_reducible refine w_eqlL ?_) | (with_reducible refine w_neqL ?_) | (with_reducible refine s_eqlL ?_) | (with_reducible refine ifnt ?_) | (with_reducible refine ifnf ?_) | (with_reducible refine x_eqB ?_) | (with_reducible refine x_neB ?_) | (with_reducible refine x_lssL ?_) | (with_reducible refine x_gtrL ?_) | (with_reducible refine x_geqL ?_) | (with_reducible refine s_neqL ?_) | (with_reducible refine St.load h ?_) | (with_reducible refine St.loadS h ?_) | (with_reducible refine a_fld0 ?_) | (with_reducible refine St.store h fun W h => ?_) | (with_reducible refine St.storeS h fun W h => ?_) | (with_reducible refine St.alloc h fun b W h => ?_) | (with_reducible refine St.allocS h fun b W h => ?_) | (with_reducible refine a_nil ?_) | (with_reducible refine ss_load ?_) | (with_reducible refine ss_loadS ?_) | (with_reducible refine ss_eqb ?_)))
    refine ifd_neg (by decide) ?_
    (repeat (first | (with_reducible refine ift ?_) | (with_reducible refine iff' ?_) | (with_reducible refine a_lss ?_) | (with_reducible refine a_leq ?_) | (with_reducible refine a_gtr ?_) | (with_reducible refine a_geq ?_) | (with_reducible refine w_eql ?_) | (with_reducible refine w_neq ?_) | (with_reducible refine s_eql ?_) | (with_reducible refine s_neq ?_) | ((with_reducible refine a_add64 ?h0 ?h1 ?_); (case h0 => omega); (case h1 => omega);  skip) | ((with_reducible refine a_sub64 ?h0 ?h1 ?_); (case h0 => omega); (case h1 => omega);  skip) | ((with_reducible refine a_mul64 ?h0 ?h1 ?_); (case h0 => omega); (case h1 => omega);  skip) | (with_reducible refine a_notd ?_) | (with_reducible refine a_not ?_) | (with_reducible refine a_ext0 ?_) | (with_reducible refine a_ext1 ?_) | (with_reducible refine a_ext2 ?_) | (with_reducible refine x_len ?_) | (with_reducible refine x_lens ?_) | (with_reducible refine x_eqb ?_) | (with_reducible refine x_neb ?_) | (with_reducible refine x_nilP ?_) | (with_reducible refine x_nilPn ?_) | (with_reducible refine x_nilF ?_) | (with_reducible refine x_nilFF ?_) | (with_reducible refine w_eqlL ?_) | (with_reducible refine w_neqL ?_) | (with_reducible refine s_eqlL ?_) | (with_reducible refine ifnt ?_) | (with_reducible refine ifnf ?_) | (with_reducible refine x_eqB ?_) | (with_reducible refine x_neB ?_) | (with_reducible refine x_lssL ?_) | (with_reducible refine x_gtrL ?_) | (with_reducible refine x_geqL ?_) | (with_reducible refine s_neqL ?_) | (with_reducible refine St.load h ?_) | (with_reducible refine St.loadS h ?_) | (with_reducible refine a_fld0 ?_) | (with_reducible refine St.store h fun W h => ?_) | (with_reducible refine St.storeS h fun W h => ?_) | (with_reducible refine St.alloc h fun b W h => ?_) | (with_reducible refine St.allocS h fun b W h => ?_) | (with_reducible refine a_nil ?_) | (with_reducible refine ss_load ?_) | (with_reducible refine ss_loadS ?_) | (with_reducible refine ss_eqb ?_)))
    refine ifd_neg (by decide) ?_
    (repeat (first | (with_reducible refine ift ?_) | (with_reducible refine iff' ?_) | (with_reducible refine a_lss ?_) | (with_reducible refine a_leq ?_) | (with_reducible refine a_gtr ?_) | (with_reducible refine a_geq ?_) | (with_reducible refine w_eql ?_) | (with_reducible refine w_neq ?_) | (with_reducible refine s_eql ?_) | (with_reducible refine s_neq ?_) | ((with_reducible refine a_add64 ?h0 ?h1 ?_); (case h0 => omega); (case h1 => omega);  skip) | ((with_reducible refine a_sub64 ?h0 ?h1 ?_); (case h0 => omega); (case h1 => omega);  skip) | ((with_reducible refine a_mul64 ?h0 ?h1 ?_); (case h0 => omega); (case h1 => omega);  skip) | (with_reducible refine a_notd ?_) | (with_reducible refine a_not ?_) | (with_reducible refine a_ext0 ?_) | (with_reducible refine a_ext1 ?_) | (with_reducible refine a_ext2 ?_) | (with_reducible refine x_len ?_) | (with_reducible refine x_lens ?_) | (with_reducible refine x_eqb ?_) | (with_reducible refine x_neb ?_) | (with_reducible refine x_nilP ?_) | (with_reducible refine x_nilPn ?_) | (with_reducible refine x_nilF ?_) | (with_reducible refine x_nilFF ?_) | (with_reducible refine w_eqlL ?_) | (with_reducible refine w_neqL ?_) | (with_reducible refine s_eqlL ?_) | (with_reducible refine ifnt ?_) | (with_reducible refine ifnf ?_) | (with_reducible refine x_eqB ?_) | (with_reducible refine x_neB ?_) | (with_reducible refine x_lssL ?_) | (with_reducible refine x_gtrL ?_) | (with_reducible refine x_geqL ?_) | (with_reducible refine s_neqL ?_) | (with_reducible refine St.load h ?_) | (with_reducible refine St.loadS h ?_) | (with_reducible refine a_fld0 ?_) | (with_reducible refine St.store h fun W h => ?_) | (with_reducible refine St.storeS h fun W h => ?_) | (with_reducible refine St.alloc h fun b W h => ?_) | (with_reducible refine St.allocS h fun b W h => ?_) | (with_reducible refine a_nil ?_) | (with_reducible refine ss_load ?_) | (with_reducible refine ss_loadS ?_) | (with_reducible refine ss_eqb ?_)))
    refine without_spec (s := key) (h.osl (v := lv)) rfl (by omega) fun u W ou h4 => ?_
    replace h := h.frame1 h4
    have hol := outF_len key fs
    exact k zs u (outF key fs) W (fun _ h => h) ou (outF_del hg.srt) (outF_fk hk) (by omega) h.to

/-- v points to the document's disk -/
def Xk (zs : Zs) (d : Dd) (v : Value) : As := As.ex fun p : Nat × Value × Value × Value × Value × List Fl × List Fl × List (Chg × Sv) => As.all (v = .pointer (some ⟨p.1, 0, none⟩) ∧ d.V ∧ (p.2.2.2.2.2.1.map Prod.fst = d.now ∧ FK zs p.2.2.2.2.2.1) ∧ (p.2.2.2.2.2.2.1.map Prod.fst = d.dur ∧ FK zs p.2.2.2.2.2.2.1) ∧ p.2.2.2.2.2.2.2.map Prod.fst = d.pend ∧ ∀ x ∈ p.2.2.2.2.2.2.2, ChK zs x)
  [Ky p.1 (Ob (.cells [.int .i64 d.room, p.2.1, p.2.2.1, p.2.2.2.1, p.2.2.2.2.1, .int .i64 (d.calls : Int), .bool d.down].toArray 88 (0, 0))), Ky p.2.1 (FO p.2.2.2.2.2.1), Ky p.2.2.1 (FO p.2.2.2.2.2.2.1),
   Ky p.2.2.2.1 (Ow 105 5 p.2.2.2.2.2.2.2.length (rcells opxC p.2.2.2.2.2.2.2)), Ky p.2.2.2.2.1 (Ow 107 4 d.plan.length (rcells evC d.plan))]
theorem openX [i : Has l v (Xk zs d) R] (h : St w0 G0 l W) : ∃ (b : Nat) (nv sv pv ev : Value) (fs gs : List Fl) (ps : List (Chg × Sv)), v = .pointer (some ⟨b, 0, none⟩) ∧ d.V ∧ (fs.map Prod.fst = d.now ∧ FK zs fs) ∧ (gs.map Prod.fst = d.dur ∧ FK zs gs) ∧ ps.map Prod.fst = d.pend ∧ (∀ x ∈ ps, ChK zs x) ∧ (Cel1 nv ∧ Cel1 sv ∧ Cel1 pv ∧ Cel1 ev) ∧
    St w0 G0 (Ky b (Ob (.cells [.int .i64 d.room, nv, sv, pv, ev, .int .i64 (d.calls : Int), .bool d.down].toArray 88 (0, 0))) :: Ky nv (FO fs) :: Ky sv (FO gs) ::
      Ky pv (Ow 105 5 ps.length (rcells opxC ps)) :: Ky ev (Ow 107 4 d.plan.length (rcells evC d.plan)) :: R) W := by
  have h1 : St w0 G0 (Xk zs d v :: R) W := h.find (k := v) (X := Xk zs d)
  obtain ⟨⟨b, nv, sv, pv, ev, fs, gs, ps⟩, h2⟩ := h1.openE
  obtain ⟨⟨h3, h4, h5, h6, h7, h8⟩, h9⟩ := h2.open5
  refine ⟨b, nv, sv, pv, ev, fs, gs, ps, h3, h4, h5, h6, h7, h8, ⟨.of_own (h9.tail.ow (v := nv) (e := 109) (sz := 2) (n := fs.length) (xs := rcells fileC fs)), .of_own (h9.tail.tail.ow (v := sv) (e := 109) (sz := 2) (n := gs.length) (xs := rcells fileC gs)), .of_own (h9.tail.tail.tail.ow (v := pv) (e := 105) (sz := 5) (n := ps.length) (xs := rcells opxC ps)), .of_own (h9.tail.tail.tail.tail.ow (v := ev) (e := 107) (sz := 4) (n := d.plan.length) (xs := rcells evC d.plan))⟩, h9⟩
theorem shutX {b n1 n2 n3 n4 : Nat} {nv sv pv ev : Value} {fs gs : List Fl} {ps : List (Chg × Sv)} {cs xs1 xs2 xs3 xs4 : List Value} [i1 : Has l b (Ob (.cells cs.toArray 88 (0, 0))) R1] [i2 : Has R1 nv (Ow 109 2 n1 xs1) R2] [i3 : Has R2 sv (Ow 109 2 n2 xs2) R3] [i4 : Has R3 pv (Ow 105 5 n3 xs3) R4] [i5 : Has R4 ev (Ow 107 4 n4 xs4) R5]
    (d : Dd) (h : St w0 G0 l W) (hV : d.V) (hf : fs.map Prod.fst = d.now ∧ FK zs fs) (hgg : gs.map Prod.fst = d.dur ∧ FK zs gs) (hp : ps.map Prod.fst = d.pend) (hk : ∀ x ∈ ps, ChK zs x) (hcs : cs = [.int .i64 d.room, nv, sv, pv, ev, .int .i64 (d.calls : Int), .bool d.down]) (hn1 : n1 = fs.length) (hx1 : xs1 = rcells fileC fs) (hn2 : n2 = gs.length) (hx2 : xs2 = rcells fileC gs) (hn3 : n3 = ps.length) (hx3 : xs3 = rcells opxC ps) (hn4 : n4 = d.plan.length) (hx4 : xs4 = rcells evC d.plan) :
    St w0 G0 (Ky (.pointer (some ⟨b, 0, none⟩)) (Xk zs d) :: R5) W := by
  subst hcs hn1 hx1 hn2 hx2 hn3 hx3 hn4 hx4
  refine St.shutE (f := fun p : Nat × Value × Value × Value × Value × List Fl × List Fl × List (Chg × Sv) => As.all (Value.pointer (some ⟨b, 0, none⟩) = Value.pointer (some ⟨p.1, 0, none⟩) ∧ d.V ∧ (p.2.2.2.2.2.1.map Prod.fst = d.now ∧ FK zs p.2.2.2.2.2.1) ∧ (p.2.2.2.2.2.2.1.map Prod.fst = d.dur ∧ FK zs p.2.2.2.2.2.2.1) ∧ p.2.2.2.2.2.2.2.map Prod.fst = d.pend ∧ ∀ x ∈ p.2.2.2.2.2.2.2, ChK zs x)
  [Ky p.1 (Ob (.cells [.int .i64 d.room, p.2.1, p.2.2.1, p.2.2.2.1, p.2.2.2.2.1, .int .i64 (d.calls : Int), .bool d.down].toArray 88 (0, 0))), Ky p.2.1 (FO p.2.2.2.2.2.1), Ky p.2.2.1 (FO p.2.2.2.2.2.2.1),
   Ky p.2.2.2.1 (Ow 105 5 p.2.2.2.2.2.2.2.length (rcells opxC p.2.2.2.2.2.2.2)), Ky p.2.2.2.2.1 (Ow 107 4 d.plan.length (rcells evC d.plan))]) (b, nv, sv, pv, ev, fs, gs, ps) (St.shut5 ⟨rfl, hV, hf, hgg, hp, hk⟩ ?_)
  obtain ⟨F, hF, hG⟩ := h.own
  exact { h with own := ⟨F, sepL_mono (fun F w h => sepL_mono (fun F w h => sepL_mono (fun F w h => sepL_mono i5.to (i4.to F w h)) (i3.to F w h)) (i2.to F w h)) (i1.to F W hF), hG⟩ }
theorem upX [i : Has l v (Xk zs d) R] (h : St w0 G0 l W) (hz : ∀ z ∈ zs, z ∈ zs') : St w0 G0 (Ky v (Xk zs' d) :: R) W := by
  obtain ⟨b, nv, sv, pv, ev, fs, gs, ps, rfl, hV, hf, hgg, hp, hk, ⟨o1, o2, o3, o4⟩, h⟩ := openX (v := v) h
  exact shutX (b := b) (nv := nv) (sv := sv) (pv := pv) (ev := ev) d h hV ⟨hf.1, hf.2.sub hz⟩ ⟨hgg.1, hgg.2.sub hz⟩ hp (fun x hx => (hk x hx).sub hz) rfl rfl rfl rfl rfl rfl rfl rfl rfl
theorem xkV [i : Has l v (Xk zs d) R] (h : St w0 G0 l W) : d.V ∧ ∃ b, v = .pointer (some ⟨b, 0, none⟩) := by
  obtain ⟨b, nv, sv, pv, ev, fs, gs, ps, rfl, hV, _⟩ := openX (v := v) h
  exact ⟨hV, b, rfl⟩
/-- New -/
theorem newx_spec {n : Int} (zs : Zs) (h : St w0 G0 l W) (k0 : ¬ (0 ≤ n ∧ n ≤ 1073741824) → RR (.tuple #[.pointer none, .int .i64 1]) W)
    (k1 : 0 ≤ n → n ≤ 1073741824 → ∀ b W', St w0 G0 (Ky (.pointer (some ⟨b, 0, none⟩) : Value) (Xk zs (newD n)) :: l) W' → RR (.tuple #[.pointer (some ⟨b, 0, none⟩), .int .i64 0]) W') : CallF Try.prog 32 #[.int .i64 n] W RR := by
  refine sh32_calls ?_
  unfold sh32
  refine a_lss (ifd (fun hx => k0 (by omega)) fun hx0 => ?_)
  refine a_gtr (ifd (fun hx => k0 (by omega)) fun hx1 => ?_)
  refine x_bld (cells := #[.int .i64 n, .slice none 0 0, .slice none 0 0, .slice none 0 0, .slice none 0 0, .int .i64 0, .bool false]) rfl ?_
  refine St.boxS (cs := [.int .i64 n, .slice none 0 0, .slice none 0 0, .slice none 0 0, .slice none 0 0, .int .i64 0, .bool false]) h fun b W h => ?_
  refine k1 (by omega) (by omega) b W ?_
  have h1 : St w0 G0 (Ky (.slice none 0 0 : Value) (Ow 107 4 0 []) :: _) W := h.nilOw
  have h2 : St w0 G0 (Ky (.slice none 0 0 : Value) (Ow 105 5 0 []) :: _) W := h1.nilOw
  have h3 : St w0 G0 (Ky (.slice none 0 0 : Value) (Ow 109 2 0 []) :: _) W := h2.nilOw
  have h4 : St w0 G0 (Ky (.slice none 0 0 : Value) (Ow 109 2 0 []) :: _) W := h3.nilOw
  exact shutX (b := b) (nv := .slice none 0 0) (sv := .slice none 0 0) (pv := .slice none 0 0) (ev := .slice none 0 0) (fs := []) (gs := []) (ps := []) (zs := zs) (newD n) h4 (newD_V (by omega) (by omega)) ⟨rfl, fun p hp => (by cases hp)⟩ ⟨rfl, fun p hp => (by cases hp)⟩ rfl (fun p hp => (by cases hp)) rfl rfl rfl rfl rfl rfl rfl rfl rfl
/-- change -/
theorem change_spec {c : Chg} {sv0 : Sv} [i : Has l v (Xk zs d) R1] [j : Has R1 PoolK.a (Pl zs) R] (h : St w0 G0 l W) (hok : c.ok d.now) (hck : ChK zs (c, sv0)) (hl : d.dur.length + d.pend.length + 1 ≤ d.calls) (hc : d.calls ≤ 800000)
    (k : ∀ zs' W', (∀ z ∈ zs, z ∈ zs') → St w0 G0 (Ky v (Xk zs' (d.does c)) :: Ky PoolK.a (Pl zs') :: R) W' → RR (.tuple #[]) W') : CallF Try.prog 78 #[v, .agg (opxC (c, sv0)).toArray] W RR := by
  refine sh78_calls ?_
  unfold sh78
  replace h := has2 (k := v) (k' := PoolK.a) h
  obtain ⟨b, nv, sv, pv, ev, fs, gs, ps, rfl, hV, hf, hgg, hps, hcks, ⟨o1, o2, o3, o4⟩, h3⟩ := openX (v := v) h
  clear h
  have h := h3
  clear h3
  refine h.boxS (cs := opxC (c, sv0)) fun bx W h => ?_
  replace h := h.drew
  refine ⟨St w0 G0 _, h, ?_⟩
  refine a_nil (a_fld0 (ss_load (ss_loadS ?_)))
  have hlen : fs.length ≤ 800000 := by
    have h1 := congrArg List.length hf.1
    have h2 := hV.lenN
    rw [List.length_map] at h1
    omega
  refine apply_spec (lv := nv) (c := c) (sv := sv0) h (by omega) (by rw [hf.1]; exact hV.now) (by rw [hf.1]; exact hok) hf.2 hck fun zs1 nv2 fs2 W hz1 on2 hf2 hk2 _ h => ?_
  (repeat (first | (with_reducible refine ift ?_) | (with_reducible refine iff' ?_) | (with_reducible refine a_lss ?_) | (with_reducible refine a_leq ?_) | (with_reducible refine a_gtr ?_) | (with_reducible refine a_geq ?_) | (with_reducible refine w_eql ?_) | (with_reducible refine w_neq ?_) | (with_reducible refine s_eql ?_) | (with_reducible refine s_neq ?_) | ((with_reducible refine a_add64 ?h0 ?h1 ?_); (case h0 => omega); (case h1 => omega);  skip) | ((with_reducible refine a_sub64 ?h0 ?h1 ?_); (case h0 => omega); (case h1 => omega);  skip) | ((with_reducible refine a_mul64 ?h0 ?h1 ?_); (case h0 => omega); (case h1 => omega);  skip) | (with_reducible refine a_notd ?_) | (with_reducible refine a_not ?_) | (with_reducible refine a_ext0 ?_) | (with_reducible refine a_ext1 ?_) | (with_reducible refine a_ext2 ?_) | (with_reducible refine x_len ?_) | (with_reducible refine x_lens ?_) | (with_reducible refine x_eqb ?_) | (with_reducible refine x_neb ?_) | (with_reducible refine x_nilP ?_) | (with_reducible refine x_nilPn ?_) | (with_reducible refine x_nilF ?_) | (with_reducible refine x_nilFF ?_) | (with_reducible refine w_eqlL ?_) | (with_reducible refine w_neqL ?_) | (with_reducible refine s_eqlL ?_) | (with_reducible refine ifnt ?_) | (with_reducible refine ifnf ?_) | (with_reducible refine x_eqB ?_) | (with_reducible refine x_neB ?_) | (with_reducible refine x_lssL ?_) | (with_reducible refine x_gtrL ?_) | (with_reducible refine x_geqL ?_) | (with_reducible refine s_neqL ?_) | (with_reducible refine St.load h ?_) | (with_reducible refine St.loadS h ?_) | (with_reducible refine a_fld0 ?_) | (with_reducible refine St.store h fun W h => ?_) | (with_reducible refine St.storeS h fun W h => ?_) | (with_reducible refine St.alloc h fun b W h => ?_) | (with_reducible refine St.allocS h fun b W h => ?_) | (with_reducible refine a_nil ?_) | (with_reducible refine ss_load ?_) | (with_reducible refine ss_loadS ?_) | (with_reducible refine ss_eqb ?_)))
  replace h := h.drew
  refine ⟨fun W' => Rec W' b 88 [.int .i64 d.room, nv2, sv, pv, ev, .int .i64 (d.calls : Int), .bool d.down] ∧ Rec W' bx 105 (opxC (c, sv0)), ⟨h.rc, h.rc⟩, ?_⟩
  refine a_nil (a_fld0 (s_ld (fun w hw => hw.1) rfl ?_))
  refine s_of (v := .agg (opxC (c, sv0)).toArray) (fun w hw => x_lds (cs := opxC (c, sv0)) (opxC_len _) (fun j u hu => by
    have := hw.2.cell hu
    rw [Nat.zero_add]; exact this) rfl) ?_
  refine h.lit (vs := [.agg (opxC (c, sv0)).toArray]) (cs := opxC (c, sv0)) (c := ⟨by intro u hu; simp only [List.mem_singleton] at hu; subst hu; show (opxC (c, sv0)).toArray.size = 5; rw [List.size_toArray, opxC_len], by simp [Value.cells]⟩) (fun u W o h => ?_) (by decide)
  refine ⟨⟨h.rc, h.rc⟩, ?_⟩
  have hpl : ps.length ≤ 1000000000 := by
    have := hV.len
    have h1 : d.pend.length = ps.length := by rw [← hps]; simp
    omega
  refine h.app (v := pv) (m := 1) (news := opxC (c, sv0)) (h.osl (v := u)) (fun x hx => opxC_one [(c, sv0)] x (by simpa [rcells] using hx)) (by unfold maxLen; omega) (by omega) fun pv2 W o h _ => ?_
  (repeat (first | (with_reducible refine ift ?_) | (with_reducible refine iff' ?_) | (with_reducible refine a_lss ?_) | (with_reducible refine a_leq ?_) | (with_reducible refine a_gtr ?_) | (with_reducible refine a_geq ?_) | (with_reducible refine w_eql ?_) | (with_reducible refine w_neq ?_) | (with_reducible refine s_eql ?_) | (with_reducible refine s_neq ?_) | ((with_reducible refine a_add64 ?h0 ?h1 ?_); (case h0 => omega); (case h1 => omega);  skip) | ((with_reducible refine a_sub64 ?h0 ?h1 ?_); (case h0 => omega); (case h1 => omega);  skip) | ((with_reducible refine a_mul64 ?h0 ?h1 ?_); (case h0 => omega); (case h1 => omega);  skip) | (with_reducible refine a_notd ?_) | (with_reducible refine a_not ?_) | (with_reducible refine a_ext0 ?_) | (with_reducible refine a_ext1 ?_) | (with_reducible refine a_ext2 ?_) | (with_reducible refine x_len ?_) | (with_reducible refine x_lens ?_) | (with_reducible refine x_eqb ?_) | (with_reducible refine x_neb ?_) | (with_reducible refine x_nilP ?_) | (with_reducible refine x_nilPn ?_) | (with_reducible refine x_nilF ?_) | (with_reducible refine x_nilFF ?_) | (with_reducible refine w_eqlL ?_) | (with_reducible refine w_neqL ?_) | (with_reducible refine s_eqlL ?_) | (with_reducible refine ifnt ?_) | (with_reducible refine ifnf ?_) | (with_reducible refine x_eqB ?_) | (with_reducible refine x_neB ?_) | (with_reducible refine x_lssL ?_) | (with_reducible refine x_gtrL ?_) | (with_reducible refine x_geqL ?_) | (with_reducible refine s_neqL ?_) | (with_reducible refine St.load h ?_) | (with_reducible refine St.loadS h ?_) | (with_reducible refine a_fld0 ?_) | (with_reducible refine St.store h fun W h => ?_) | (with_reducible refine St.storeS h fun W h => ?_) | (with_reducible refine St.alloc h fun b W h => ?_) | (with_reducible refine St.allocS h fun b W h => ?_) | (with_reducible refine a_nil ?_) | (with_reducible refine ss_load ?_) | (with_reducible refine ss_loadS ?_) | (with_reducible refine ss_eqb ?_)))
  have hr : rcells opxC ps ++ opxC (c, sv0) = rcells opxC (ps ++ [(c, sv0)]) := by rw [rc_append]; simp [rcells]
  refine k zs1 W hz1 (shutX (b := b) (nv := nv2) (sv := sv) (pv := pv2) (ev := ev) (fs := fs2) (gs := gs) (ps := ps ++ [(c, sv0)]) (zs := zs1) (d.does c) h (hV.does hok hl) ⟨?_, hk2⟩ ⟨hgg.1, hgg.2.sub hz1⟩ ?_ ?_ rfl rfl rfl rfl rfl (by simp) hr rfl rfl).to
  · rw [hf2, hf.1]; exact (does_now d c).symm
  · show _ = d.pend ++ [c]
    rw [← hps]; simp
  · intro x hx
    rcases List.mem_append.1 hx with hx | hx
    · exact (hcks x hx).sub hz1
    · simp only [List.mem_singleton] at hx
      subst hx
      exact hck.sub hz1
end
end Go.Proofs.Ytdoopdbfajgnjaa
