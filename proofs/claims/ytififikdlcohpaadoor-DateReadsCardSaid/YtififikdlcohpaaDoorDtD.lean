/-
  DATES: mail's times, either form; digits written.
-/
import Derived.Test.YtififikdlcohpaaDoorDtC
import Derived.Test.YtififikdlcohpaaDoorEzMk
import Derived.Test.YtififikdlcohpaaDoorEzIter
namespace Go.Proofs.YtififikdlcohpaaDoor
open Go Go.Ez Go.RowKit
set_option linter.unusedSimpArgs false
set_option linter.unusedVariables false
section
variable {w0 W W' : World} {G : Nat → Prop} {l R R1 : List As} {RR : Value → World → Prop} {x : RSt} {b : Nat} {p s : Txt}
abbrev StrO (ls : List Txt) : Value → As := Ow 9 1 ls.length (ls.map strV)
theorem wdays_spec (h : St w0 G l W) (k : ∀ v W', St w0 G (Ky v (StrO wdaysL) :: l) W' → RR v W') : CallF Tryd.prog 54 #[] W RR := by
  refine sh54_calls ?_
  unfold sh54
  exact h.lit fun v W' _ h => k v W' h
theorem months_spec (h : St w0 G l W) (k : ∀ v W', St w0 G (Ky v (StrO monthsL) :: l) W' → RR v W') : CallF Tryd.prog 57 #[] W RR := by
  refine sh57_calls ?_
  unfold sh57
  exact h.lit fun v W' _ h => k v W' h
theorem oneP_le (ls : List Txt) (s : Txt) : (oneP ls s).1 ≤ ls.length := by
  induction ls with
  | nil => exact Nat.le_refl _
  | cons p ls ih => unfold oneP; split; · simp
                    · split <;> simp; omega
/-- (*reader).one -/
theorem one_spec {ls : List Txt} {v : Value} [i : Has l b (RdO x) R1] [j : Has R1 v (StrO ls) R] (h : St w0 G l W) (hl : ls.length ≤ 1000) (k : ∀ W', St w0 G (Ky b (RdO ((oneP ls x.1).2, x.2)) :: R) W' → RR (nV .i64 (oneP ls x.1).1) W') :
    CallF Tryd.prog 53 #[.pointer (some ⟨b, 0, none⟩), v] W RR := by
  refine sh53_calls ?_
  unfold sh53
  refine v_func ?_
  have hle := oneP_le ls x.1
  refine idxf_spec (x := x) (ls := ls) (v := v) h hl fun W' h => ?_
  refine a_add64 (by omega) (by omega) ?_
  rw [show (1 + (((oneP ls x.1).1 : Int) - 1)) = ((oneP ls x.1).1 : Int) by omega]
  exact k W' h
/-- (*reader).year -/
theorem year_spec [i : Has l b (RdO x) R] (h : St w0 G l W) (hx : x.1.length ≤ 9223372036854775807) (k : ∀ W', St w0 G (Ky b (RdO (yearP x).2) :: R) W' → RR (.int .i64 (yearP x).1) W') : CallF Tryd.prog 58 #[.pointer (some ⟨b, 0, none⟩)] W RR := by
  refine sh58_calls ?_
  unfold sh58
  replace h := h.find (k := b) (X := RdO x)
  refine a_nil (a_fld0 (h.load (x_len ?_)))
  refine number_spec (x := x) (least := 2) (most := 4) h (by decide) (by decide) fun W h => ?_
  refine a_nil (a_fld0 (h.load (x_len ?_)))
  have hr := numberP_rng (least := 2) (most := 4) (x := x)
  have hd := digs_len (most := 4) (s := x.1)
  have hlen : (numberP 2 4 x).2.1.length = x.1.length - (digs 4 x.1).length := by show (x.1.drop _).length = _; rw [List.length_drop]
  unfold yearP at k
  generalize hN : numberP 2 4 x = N at *
  rw [hlen]
  generalize hK : (digs 4 x.1).length = K at *
  refine a_sub64 (by omega) (by omega) ?_
  rw [show ((x.1.length : Int) - ((x.1.length - K : Nat) : Int)) = (K : Int) by omega]
  refine w_eql (ifd (fun h4 => ?_) fun h4 => ?_)
  · obtain rfl : K = 4 := by omega
    simp only [if_true] at k
    have := k W
    unfold badIf at this
    simp only [Nat.reduceEqDiff, decide_false, Bool.or_false] at this
    exact this h
  have hn4 : ¬ K = 4 := by omega
  simp only [hn4, if_false] at k
  refine jni (fun vs W' => vs = [.int .i64 N.1] ∧ St w0 G (Ky b (RdO (badIf (decide (K = 3)) N.2)) :: R) W') ?_ ?_
  · rintro vs W1 _ ⟨rfl, h⟩
    refine app1 ?_
    refine a_leq (ifd (fun hc => ?_) fun hc => ?_)
    · rw [if_pos hc] at k; exact a_add64 (by omega) (by omega) (k W1 h)
    · rw [if_neg hc] at k; exact a_add64 (by omega) (by omega) (k W1 h)
  · refine w_eql (ifd (fun h3 => ?_) fun h3 => ?_)
    · refine a_nil (a_fld0 (h.store fun W' h => ⟨rfl, ?_⟩))
      unfold badIf; rw [decide_eq_true (by omega), Bool.or_true]; exact h
    · refine ⟨rfl, ?_⟩
      unfold badIf; rw [decide_eq_false (by omega), Bool.or_false]; exact h
theorem hours_at {i : Nat} (h : i < 11) : (hoursL.map fun n => Value.int .i64 n)[i]? = some (.int .i64 (hoursL.getD i 0)) ∧ -8 ≤ hoursL.getD i 0 ∧ hoursL.getD i 0 ≤ 0 := by
  have : ∀ i : Fin 11, (hoursL.map fun n => Value.int .i64 n)[i.val]? = some (.int .i64 (hoursL.getD i.val 0)) ∧ -8 ≤ hoursL.getD i.val 0 ∧ hoursL.getD i.val 0 ≤ 0 := by
    intro i
    match i with
    | 0 | 1 | 2 | 3 | 4 | 5 | 6 | 7 | 8 | 9 | 10 => exact ⟨rfl, by decide, by decide⟩
  exact this ⟨i, h⟩
theorem zoneP_rng (x : RSt) : -400000 ≤ (zoneP x).1 ∧ (zoneP x).1 ≤ 400000 := by
  have hle := oneP_le zonesL x.1
  rw [show zonesL.length = 11 from rfl] at hle
  unfold zoneP
  split
  · have := hours_at (i := (oneP zonesL x.1).1 - 1) (by omega)
    simp only []
    omega
  · exact offsetP_rng _
/-- (*reader).zone -/
theorem zone_spec [i : Has l b (RdO x) R] (h : St w0 G l W) (k : ∀ W', St w0 G (Ky b (RdO (zoneP x).2) :: R) W' → RR (.int .i64 (zoneP x).1) W') : CallF Tryd.prog 60 #[.pointer (some ⟨b, 0, none⟩)] W RR := by
  refine sh60_calls ?_
  unfold sh60
  replace h := h.find (k := b) (X := RdO x)
  refine h.lit fun v W _ h => ?_
  replace h : St w0 G (Ky v (StrO zonesL) :: Ky b (RdO x) :: R) W := h
  refine h.lit fun u W _ h => ?_
  refine one_spec (x := x) (ls := zonesL) (v := v) h (by decide) fun W h => ?_
  have hle := oneP_le zonesL x.1
  rw [show zonesL.length = 11 from rfl] at hle
  unfold zoneP at k
  refine a_gtr (ifd (fun hc => ?_) fun hc => ?_)
  · rw [if_pos (by omega)] at k
    refine a_sub64 (by omega) (by omega) ?_
    rw [show (((oneP zonesL x.1).1 : Int) - 1) = (((oneP zonesL x.1).1 - 1 : Nat) : Int) by omega]
    obtain ⟨g1, g2, g3⟩ := hours_at (i := (oneP zonesL x.1).1 - 1) (by omega)
    refine x_at (h.osl (v := u)) g1 ?_
    refine a_mul64 (by omega) (by omega) ?_
    exact k W h.to
  · rw [if_neg (by omega)] at k
    refine offset_spec (x := ((oneP zonesL x.1).2, x.2)) (p := []) h fun W h => ?_
    exact k W h.to
/-- Mail -/
theorem mail_spec (h : St w0 G l W) (hs : s.length ≤ 9223372036854775807) (k : ∀ W', St w0 G l W' → RR (.tuple #[.int .i64 (mailP s).1, .int .i64 (mailP s).2]) W') : CallF Tryd.prog 27 #[strV s] W RR := by
  refine sh27_calls ?_
  unfold sh27
  refine x_bld (cells := #[strV s, .bool false]) rfl ?_
  refine h.boxS (cs := [strV s, .bool false]) fun b W h => ?_
  replace h : St w0 G (Ky b (RdO (s, false)) :: l) W := h
  refine jni (fun vs W' => vs = [.pointer (some ⟨b, 0, none⟩)] ∧ St w0 G (Ky b (RdO (wdayP s)) :: l) W') ?_ ?_
  · rintro vs W _ ⟨rfl, h⟩
    refine app1 ?_
    refine h.allocS fun q W h => ?_
    unfold mailP at k
    simp only [] at k
    refine number_spec (x := wdayP s) (least := 1) (most := 2) h (by decide) (by decide) fun W h => ?_
    have hlen1 : (numberP 1 2 (wdayP s)).2.1.length ≤ s.length := Nat.le_trans (numberP_le _ _ _) (wdayP_le s)
    generalize hD : numberP 1 2 (wdayP s) = D at *
    (repeat (first | (with_reducible refine ift ?_) | (with_reducible refine iff' ?_) | (with_reducible refine a_lss ?_) | (with_reducible refine a_leq ?_) | (with_reducible refine a_gtr ?_) | (with_reducible refine a_geq ?_) | (with_reducible refine w_eql ?_) | (with_reducible refine w_neq ?_) | (with_reducible refine s_eql ?_) | (with_reducible refine s_neq ?_) | ((with_reducible refine a_add64 ?h0 ?h1 ?_); (case h0 => omega); (case h1 => omega);  skip) | ((with_reducible refine a_sub64 ?h0 ?h1 ?_); (case h0 => omega); (case h1 => omega);  skip) | ((with_reducible refine a_mul64 ?h0 ?h1 ?_); (case h0 => omega); (case h1 => omega);  skip) | (with_reducible refine a_notd ?_) | (with_reducible refine a_not ?_) | (with_reducible refine a_ext0 ?_) | (with_reducible refine a_ext1 ?_) | (with_reducible refine a_ext2 ?_) | (with_reducible refine x_len ?_) | (with_reducible refine x_lens ?_) | (with_reducible refine x_eqb ?_) | (with_reducible refine x_neb ?_) | (with_reducible refine x_nilP ?_) | (with_reducible refine x_nilPn ?_) | (with_reducible refine x_nilF ?_) | (with_reducible refine x_nilFF ?_) | (with_reducible refine w_eqlL ?_) | (with_reducible refine w_neqL ?_) | (with_reducible refine s_eqlL ?_) | (with_reducible refine ifnt ?_) | (with_reducible refine ifnf ?_) | (with_reducible refine x_eqB ?_) | (with_reducible refine x_neB ?_) | (with_reducible refine x_lssL ?_) | (with_reducible refine x_gtrL ?_) | (with_reducible refine x_geqL ?_) | (with_reducible refine s_neqL ?_) | (with_reducible refine St.load h ?_) | (with_reducible refine St.loadS h ?_) | (with_reducible refine a_fld0 ?_) | (with_reducible refine St.store h fun W h => ?_) | (with_reducible refine St.storeS h fun W h => ?_) | (with_reducible refine St.alloc h fun b W h => ?_) | (with_reducible refine St.allocS h fun b W h => ?_) | (with_reducible refine a_nil ?_) | (with_reducible refine ss_load ?_) | (with_reducible refine ss_loadS ?_) | (with_reducible refine ss_eqb ?_)))
    refine wants_spec (x := D.2) (p := [32]) h fun W h => ?_
    refine months_spec h fun v W h => ?_
    refine one_spec (x := wantsP [32] D.2) (ls := monthsL) (v := v) h (by decide) fun W h => ?_
    (repeat (first | (with_reducible refine ift ?_) | (with_reducible refine iff' ?_) | (with_reducible refine a_lss ?_) | (with_reducible refine a_leq ?_) | (with_reducible refine a_gtr ?_) | (with_reducible refine a_geq ?_) | (with_reducible refine w_eql ?_) | (with_reducible refine w_neq ?_) | (with_reducible refine s_eql ?_) | (with_reducible refine s_neq ?_) | ((with_reducible refine a_add64 ?h0 ?h1 ?_); (case h0 => omega); (case h1 => omega);  skip) | ((with_reducible refine a_sub64 ?h0 ?h1 ?_); (case h0 => omega); (case h1 => omega);  skip) | ((with_reducible refine a_mul64 ?h0 ?h1 ?_); (case h0 => omega); (case h1 => omega);  skip) | (with_reducible refine a_notd ?_) | (with_reducible refine a_not ?_) | (with_reducible refine a_ext0 ?_) | (with_reducible refine a_ext1 ?_) | (with_reducible refine a_ext2 ?_) | (with_reducible refine x_len ?_) | (with_reducible refine x_lens ?_) | (with_reducible refine x_eqb ?_) | (with_reducible refine x_neb ?_) | (with_reducible refine x_nilP ?_) | (with_reducible refine x_nilPn ?_) | (with_reducible refine x_nilF ?_) | (with_reducible refine x_nilFF ?_) | (with_reducible refine w_eqlL ?_) | (with_reducible refine w_neqL ?_) | (with_reducible refine s_eqlL ?_) | (with_reducible refine ifnt ?_) | (with_reducible refine ifnf ?_) | (with_reducible refine x_eqB ?_) | (with_reducible refine x_neB ?_) | (with_reducible refine x_lssL ?_) | (with_reducible refine x_gtrL ?_) | (with_reducible refine x_geqL ?_) | (with_reducible refine s_neqL ?_) | (with_reducible refine St.load h ?_) | (with_reducible refine St.loadS h ?_) | (with_reducible refine a_fld0 ?_) | (with_reducible refine St.store h fun W h => ?_) | (with_reducible refine St.storeS h fun W h => ?_) | (with_reducible refine St.alloc h fun b W h => ?_) | (with_reducible refine St.allocS h fun b W h => ?_) | (with_reducible refine a_nil ?_) | (with_reducible refine ss_load ?_) | (with_reducible refine ss_loadS ?_) | (with_reducible refine ss_eqb ?_)))
    generalize hX : wantsP [32] D.2 = X at *
    have hM : monthP X = ((oneP monthsL X.1).1, badIf (decide ((oneP monthsL X.1).1 = 0)) ((oneP monthsL X.1).2, X.2)) := rfl
    refine jni (fun vs W' => vs = [.pointer (some ⟨b, 0, none⟩), .pointer (some ⟨q, 0, none⟩)] ∧ St w0 G (Ky b (RdO (monthP X).2) :: Ky q (Ob (.cells [.int .i64 0, nV .i64 (monthP X).1, .int .i64 D.1, .int .i64 0, .int .i64 0, .int .i64 0, .int .i64 0].toArray 81 (0, 0))) :: l) W') ?_ ?_
    · rintro vs W _ ⟨rfl, h⟩
      refine app2 ?_
      have hlen2 : (wantsP [32] (monthP X).2).1.length ≤ 9223372036854775807 := by
        have h1 := wantsP_le [32] (monthP X).2
        have h2 := monthP_le X
        have h3 := wantsP_le [32] D.2
        rw [hX] at h3
        omega
      generalize hMM : monthP X = M at *
      refine wants_spec (x := M.2) (p := [32]) h fun W h => ?_
      refine year_spec (x := wantsP [32] M.2) h hlen2 fun W h => ?_
      generalize hY : yearP (wantsP [32] M.2) = Y at *
      (repeat (first | (with_reducible refine ift ?_) | (with_reducible refine iff' ?_) | (with_reducible refine a_lss ?_) | (with_reducible refine a_leq ?_) | (with_reducible refine a_gtr ?_) | (with_reducible refine a_geq ?_) | (with_reducible refine w_eql ?_) | (with_reducible refine w_neq ?_) | (with_reducible refine s_eql ?_) | (with_reducible refine s_neq ?_) | ((with_reducible refine a_add64 ?h0 ?h1 ?_); (case h0 => omega); (case h1 => omega);  skip) | ((with_reducible refine a_sub64 ?h0 ?h1 ?_); (case h0 => omega); (case h1 => omega);  skip) | ((with_reducible refine a_mul64 ?h0 ?h1 ?_); (case h0 => omega); (case h1 => omega);  skip) | (with_reducible refine a_notd ?_) | (with_reducible refine a_not ?_) | (with_reducible refine a_ext0 ?_) | (with_reducible refine a_ext1 ?_) | (with_reducible refine a_ext2 ?_) | (with_reducible refine x_len ?_) | (with_reducible refine x_lens ?_) | (with_reducible refine x_eqb ?_) | (with_reducible refine x_neb ?_) | (with_reducible refine x_nilP ?_) | (with_reducible refine x_nilPn ?_) | (with_reducible refine x_nilF ?_) | (with_reducible refine x_nilFF ?_) | (with_reducible refine w_eqlL ?_) | (with_reducible refine w_neqL ?_) | (with_reducible refine s_eqlL ?_) | (with_reducible refine ifnt ?_) | (with_reducible refine ifnf ?_) | (with_reducible refine x_eqB ?_) | (with_reducible refine x_neB ?_) | (with_reducible refine x_lssL ?_) | (with_reducible refine x_gtrL ?_) | (with_reducible refine x_geqL ?_) | (with_reducible refine s_neqL ?_) | (with_reducible refine St.load h ?_) | (with_reducible refine St.loadS h ?_) | (with_reducible refine a_fld0 ?_) | (with_reducible refine St.store h fun W h => ?_) | (with_reducible refine St.storeS h fun W h => ?_) | (with_reducible refine St.alloc h fun b W h => ?_) | (with_reducible refine St.allocS h fun b W h => ?_) | (with_reducible refine a_nil ?_) | (with_reducible refine ss_load ?_) | (with_reducible refine ss_loadS ?_) | (with_reducible refine ss_eqb ?_)))
      refine wants_spec (x := Y.2) (p := [32]) h fun W h => ?_
      refine number_spec (x := wantsP [32] Y.2) (least := 2) (most := 2) h (by decide) (by decide) fun W h => ?_
      generalize hH : numberP 2 2 (wantsP [32] Y.2) = H at *
      (repeat (first | (with_reducible refine ift ?_) | (with_reducible refine iff' ?_) | (with_reducible refine a_lss ?_) | (with_reducible refine a_leq ?_) | (with_reducible refine a_gtr ?_) | (with_reducible refine a_geq ?_) | (with_reducible refine w_eql ?_) | (with_reducible refine w_neq ?_) | (with_reducible refine s_eql ?_) | (with_reducible refine s_neq ?_) | ((with_reducible refine a_add64 ?h0 ?h1 ?_); (case h0 => omega); (case h1 => omega);  skip) | ((with_reducible refine a_sub64 ?h0 ?h1 ?_); (case h0 => omega); (case h1 => omega);  skip) | ((with_reducible refine a_mul64 ?h0 ?h1 ?_); (case h0 => omega); (case h1 => omega);  skip) | (with_reducible refine a_notd ?_) | (with_reducible refine a_not ?_) | (with_reducible refine a_ext0 ?_) | (with_reducible refine a_ext1 ?_) | (with_reducible refine a_ext2 ?_) | (with_reducible refine x_len ?_) | (with_reducible refine x_lens ?_) | (with_reducible refine x_eqb ?_) | (with_reducible refine x_neb ?_) | (with_reducible refine x_nilP ?_) | (with_reducible refine x_nilPn ?_) | (with_reducible refine x_nilF ?_) | (with_reducible refine x_nilFF ?_) | (with_reducible refine w_eqlL ?_) | (with_reducible refine w_neqL ?_) | (with_reducible refine s_eqlL ?_) | (with_reducible refine ifnt ?_) | (with_reducible refine ifnf ?_) | (with_reducible refine x_eqB ?_) | (with_reducible refine x_neB ?_) | (with_reducible refine x_lssL ?_) | (with_reducible refine x_gtrL ?_) | (with_reducible refine x_geqL ?_) | (with_reducible refine s_neqL ?_) | (with_reducible refine St.load h ?_) | (with_reducible refine St.loadS h ?_) | (with_reducible refine a_fld0 ?_) | (with_reducible refine St.store h fun W h => ?_) | (with_reducible refine St.storeS h fun W h => ?_) | (with_reducible refine St.alloc h fun b W h => ?_) | (with_reducible refine St.allocS h fun b W h => ?_) | (with_reducible refine a_nil ?_) | (with_reducible refine ss_load ?_) | (with_reducible refine ss_loadS ?_) | (with_reducible refine ss_eqb ?_)))
      refine wants_spec (x := H.2) (p := [58]) h fun W h => ?_
      refine number_spec (x := wantsP [58] H.2) (least := 2) (most := 2) h (by decide) (by decide) fun W h => ?_
      generalize hI : numberP 2 2 (wantsP [58] H.2) = I at *
      (repeat (first | (with_reducible refine ift ?_) | (with_reducible refine iff' ?_) | (with_reducible refine a_lss ?_) | (with_reducible refine a_leq ?_) | (with_reducible refine a_gtr ?_) | (with_reducible refine a_geq ?_) | (with_reducible refine w_eql ?_) | (with_reducible refine w_neq ?_) | (with_reducible refine s_eql ?_) | (with_reducible refine s_neq ?_) | ((with_reducible refine a_add64 ?h0 ?h1 ?_); (case h0 => omega); (case h1 => omega);  skip) | ((with_reducible refine a_sub64 ?h0 ?h1 ?_); (case h0 => omega); (case h1 => omega);  skip) | ((with_reducible refine a_mul64 ?h0 ?h1 ?_); (case h0 => omega); (case h1 => omega);  skip) | (with_reducible refine a_notd ?_) | (with_reducible refine a_not ?_) | (with_reducible refine a_ext0 ?_) | (with_reducible refine a_ext1 ?_) | (with_reducible refine a_ext2 ?_) | (with_reducible refine x_len ?_) | (with_reducible refine x_lens ?_) | (with_reducible refine x_eqb ?_) | (with_reducible refine x_neb ?_) | (with_reducible refine x_nilP ?_) | (with_reducible refine x_nilPn ?_) | (with_reducible refine x_nilF ?_) | (with_reducible refine x_nilFF ?_) | (with_reducible refine w_eqlL ?_) | (with_reducible refine w_neqL ?_) | (with_reducible refine s_eqlL ?_) | (with_reducible refine ifnt ?_) | (with_reducible refine ifnf ?_) | (with_reducible refine x_eqB ?_) | (with_reducible refine x_neB ?_) | (with_reducible refine x_lssL ?_) | (with_reducible refine x_gtrL ?_) | (with_reducible refine x_geqL ?_) | (with_reducible refine s_neqL ?_) | (with_reducible refine St.load h ?_) | (with_reducible refine St.loadS h ?_) | (with_reducible refine a_fld0 ?_) | (with_reducible refine St.store h fun W h => ?_) | (with_reducible refine St.storeS h fun W h => ?_) | (with_reducible refine St.alloc h fun b W h => ?_) | (with_reducible refine St.allocS h fun b W h => ?_) | (with_reducible refine a_nil ?_) | (with_reducible refine ss_load ?_) | (with_reducible refine ss_loadS ?_) | (with_reducible refine ss_eqb ?_)))
      refine jni (fun vs W' => vs = [.pointer (some ⟨b, 0, none⟩), .pointer (some ⟨q, 0, none⟩)] ∧ St w0 G (Ky b (RdO (colP I.2).2) :: Ky q (Ob (.cells [.int .i64 Y.1, nV .i64 M.1, .int .i64 D.1, .int .i64 H.1, .int .i64 I.1, .int .i64 (colP I.2).1, .int .i64 0].toArray 81 (0, 0))) :: l) W') ?_ ?_
      · rintro vs W _ ⟨rfl, h⟩
        refine app2 ?_
        generalize hC : colP I.2 = C at *
        refine wants_spec (x := C.2) (p := [32]) h fun W h => ?_
        have hz := zoneP_rng (wantsP [32] C.2)
        refine zone_spec (x := wantsP [32] C.2) h fun W h => ?_
        generalize hZ : zoneP (wantsP [32] C.2) = Z at *
        (repeat (first | (with_reducible refine ift ?_) | (with_reducible refine iff' ?_) | (with_reducible refine a_lss ?_) | (with_reducible refine a_leq ?_) | (with_reducible refine a_gtr ?_) | (with_reducible refine a_geq ?_) | (with_reducible refine w_eql ?_) | (with_reducible refine w_neq ?_) | (with_reducible refine s_eql ?_) | (with_reducible refine s_neq ?_) | ((with_reducible refine a_add64 ?h0 ?h1 ?_); (case h0 => omega); (case h1 => omega);  skip) | ((with_reducible refine a_sub64 ?h0 ?h1 ?_); (case h0 => omega); (case h1 => omega);  skip) | ((with_reducible refine a_mul64 ?h0 ?h1 ?_); (case h0 => omega); (case h1 => omega);  skip) | (with_reducible refine a_notd ?_) | (with_reducible refine a_not ?_) | (with_reducible refine a_ext0 ?_) | (with_reducible refine a_ext1 ?_) | (with_reducible refine a_ext2 ?_) | (with_reducible refine x_len ?_) | (with_reducible refine x_lens ?_) | (with_reducible refine x_eqb ?_) | (with_reducible refine x_neb ?_) | (with_reducible refine x_nilP ?_) | (with_reducible refine x_nilPn ?_) | (with_reducible refine x_nilF ?_) | (with_reducible refine x_nilFF ?_) | (with_reducible refine w_eqlL ?_) | (with_reducible refine w_neqL ?_) | (with_reducible refine s_eqlL ?_) | (with_reducible refine ifnt ?_) | (with_reducible refine ifnf ?_) | (with_reducible refine x_eqB ?_) | (with_reducible refine x_neB ?_) | (with_reducible refine x_lssL ?_) | (with_reducible refine x_gtrL ?_) | (with_reducible refine x_geqL ?_) | (with_reducible refine s_neqL ?_) | (with_reducible refine St.load h ?_) | (with_reducible refine St.loadS h ?_) | (with_reducible refine a_fld0 ?_) | (with_reducible refine St.store h fun W h => ?_) | (with_reducible refine St.storeS h fun W h => ?_) | (with_reducible refine St.alloc h fun b W h => ?_) | (with_reducible refine St.allocS h fun b W h => ?_) | (with_reducible refine a_nil ?_) | (with_reducible refine ss_load ?_) | (with_reducible refine ss_loadS ?_) | (with_reducible refine ss_eqb ?_)))
        refine second_spec (x := Z.2) h hz fun W h => ?_
        refine a_ext0 (a_ext1 ?_)
        exact k W h.to
      · refine eats_spec (x := I.2) (p := [58]) h fun W h => ?_
        refine ifb (fun hp => ?_) fun hp => ?_
        · refine number_spec (x := eatsP [58] I.2) (least := 2) (most := 2) h (by decide) (by decide) fun W h => ?_
          have e : colP I.2 = numberP 2 2 (eatsP [58] I.2) := by unfold colP; simp [hp]
          rw [← e] at h ⊢
          (repeat (first | (with_reducible refine ift ?_) | (with_reducible refine iff' ?_) | (with_reducible refine a_lss ?_) | (with_reducible refine a_leq ?_) | (with_reducible refine a_gtr ?_) | (with_reducible refine a_geq ?_) | (with_reducible refine w_eql ?_) | (with_reducible refine w_neq ?_) | (with_reducible refine s_eql ?_) | (with_reducible refine s_neq ?_) | ((with_reducible refine a_add64 ?h0 ?h1 ?_); (case h0 => omega); (case h1 => omega);  skip) | ((with_reducible refine a_sub64 ?h0 ?h1 ?_); (case h0 => omega); (case h1 => omega);  skip) | ((with_reducible refine a_mul64 ?h0 ?h1 ?_); (case h0 => omega); (case h1 => omega);  skip) | (with_reducible refine a_notd ?_) | (with_reducible refine a_not ?_) | (with_reducible refine a_ext0 ?_) | (with_reducible refine a_ext1 ?_) | (with_reducible refine a_ext2 ?_) | (with_reducible refine x_len ?_) | (with_reducible refine x_lens ?_) | (with_reducible refine x_eqb ?_) | (with_reducible refine x_neb ?_) | (with_reducible refine x_nilP ?_) | (with_reducible refine x_nilPn ?_) | (with_reducible refine x_nilF ?_) | (with_reducible refine x_nilFF ?_) | (with_reducible refine w_eqlL ?_) | (with_reducible refine w_neqL ?_) | (with_reducible refine s_eqlL ?_) | (with_reducible refine ifnt ?_) | (with_reducible refine ifnf ?_) | (with_reducible refine x_eqB ?_) | (with_reducible refine x_neB ?_) | (with_reducible refine x_lssL ?_) | (with_reducible refine x_gtrL ?_) | (with_reducible refine x_geqL ?_) | (with_reducible refine s_neqL ?_) | (with_reducible refine St.load h ?_) | (with_reducible refine St.loadS h ?_) | (with_reducible refine a_fld0 ?_) | (with_reducible refine St.store h fun W h => ?_) | (with_reducible refine St.storeS h fun W h => ?_) | (with_reducible refine St.alloc h fun b W h => ?_) | (with_reducible refine St.allocS h fun b W h => ?_) | (with_reducible refine a_nil ?_) | (with_reducible refine ss_load ?_) | (with_reducible refine ss_loadS ?_) | (with_reducible refine ss_eqb ?_)))
          exact ⟨rfl, h.swap⟩
        · have e : colP I.2 = (0, eatsP [58] I.2) := by unfold colP; simp [hp]
          rw [e]
          exact ⟨rfl, h⟩
    · refine a_fld0 (h.load (w_eql (ifd (fun h0 => ?_) fun h0 => ?_)))
      · refine a_nil (a_fld0 (h.store fun W' h => ⟨rfl, ?_⟩))
        rw [hM]
        unfold badIf; rw [decide_eq_true (by omega), Bool.or_true]; exact h
      · refine ⟨rfl, ?_⟩
        rw [hM]
        unfold badIf; rw [decide_eq_false (by omega), Bool.or_false]; exact h.swap
  · refine wdays_spec h fun v W h => ?_
    refine one_spec (x := (s, false)) (ls := wdaysL) (v := v) h (by decide) fun W h => ?_
    refine a_gtr (ifd (fun hc => ?_) fun hc => ?_)
    · replace hc : (0 : Int) < ((oneP wdaysL s).1 : Int) := hc
      refine wants_spec (x := ((oneP wdaysL s).2, false)) (p := [44, 32]) h fun W h => ?_
      have e : wdayP s = wantsP [44, 32] ((oneP wdaysL s).2, false) := by unfold wdayP; rw [if_pos (by omega)]
      rw [e]
      exact ⟨rfl, h⟩
    · replace hc : ¬ (0 : Int) < ((oneP wdaysL s).1 : Int) := hc
      have e : wdayP s = ((oneP wdaysL s).2, false) := by unfold wdayP; rw [if_neg (by omega)]
      rw [e]
      exact ⟨rfl, h⟩
/-- Any -/
theorem any_spec (h : St w0 G l W) (hs : s.length ≤ 9223372036854775807) (k : ∀ W', St w0 G l W' → RR (.tuple #[.int .i64 (anyP s).1, .int .i64 (anyP s).2]) W') : CallF Tryd.prog 32 #[strV s] W RR := by
  refine sh32_calls ?_
  unfold sh32
  refine net_spec h fun W h => ?_
  refine a_ext0 (a_ext1 (w_neq (ifd (fun hc => ?_) fun hc => ?_)))
  · have e : anyP s = netP s := by unfold anyP; rw [if_neg hc]
    rw [e] at k
    exact k W h
  · have e : anyP s = mailP s := by unfold anyP; rw [if_pos (by omega)]
    rw [e] at k
    refine mail_spec h hs fun W h => ?_
    exact a_ext0 (a_ext1 (k W h))
end
end Go.Proofs.YtififikdlcohpaaDoor
