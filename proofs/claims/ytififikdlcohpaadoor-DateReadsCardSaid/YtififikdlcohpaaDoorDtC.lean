/-
  DATES: what a reader takes, by either form.
-/
import Derived.Test.YtififikdlcohpaaDoorDtT
import Derived.Test.YtififikdlcohpaaDoorDtQ
namespace Go.Proofs.YtififikdlcohpaaDoor
open Go Go.Ez Go.RowKit
set_option linter.unusedSimpArgs false
set_option linter.unusedVariables false
section
variable {w0 W W' : World} {G : Nat → Prop} {l R : List As} {RR : Value → World → Prop} {x : RSt} {b : Nat} {p s : Txt}
theorem numberP_rng {least most : Nat} {x : RSt} : 0 ≤ (numberP least most x).1 ∧ (numberP least most x).1 < (10 ^ most : Nat) := by
  have h := numV_rng (digs most x.1) 0 (Int.le_refl _) fun c hc => digs_all c hc
  have h2 : (10 : Nat) ^ (digs most x.1).length ≤ 10 ^ most := Nat.pow_le_pow_right (by decide) digs_len.1
  refine ⟨h.1, ?_⟩
  show numV (digs most x.1) 0 < _
  omega
theorem signP_one (x : RSt) : (signP x).1 = 1 ∨ (signP x).1 = -1 := by unfold signP; split <;> simp
theorem offsetP_rng (x : RSt) : -400000 ≤ (offsetP p x).1 ∧ (offsetP p x).1 ≤ 400000 := by
  have h1 := numberP_rng (least := 2) (most := 2) (x := (signP x).2)
  have h2 := numberP_rng (least := 2) (most := 2) (x := wantsP p (numberP 2 2 (signP x).2).2)
  unfold offsetP
  simp only []
  rcases signP_one x with h | h <;> rw [h] <;> omega
/-- (*reader).offset -/
theorem offset_spec [i : Has l b (RdO x) R] (h : St w0 G l W) (k : ∀ W', St w0 G (Ky b (RdO (offsetP p x).2) :: R) W' → RR (.int .i64 (offsetP p x).1) W') : CallF Tryd.prog 65 #[.pointer (some ⟨b, 0, none⟩), strV p] W RR := by
  refine sh65_calls ?_
  unfold sh65
  refine jni (fun vs W' => vs = [.pointer (some ⟨b, 0, none⟩), strV p, .int .i64 (signP x).1] ∧ St w0 G (Ky b (RdO (signP x).2) :: R) W') ?_ ?_
  · rintro vs W1 _ ⟨rfl, h⟩
    refine app3 ?_
    refine number_spec (least := 2) (most := 2) h (by decide) (by decide) fun W2 h => ?_
    refine wants_spec h fun W3 h => ?_
    refine number_spec (least := 2) (most := 2) h (by decide) (by decide) fun W4 h => ?_
    have r1 := numberP_rng (least := 2) (most := 2) (x := (signP x).2)
    have r2 := numberP_rng (least := 2) (most := 2) (x := wantsP p (numberP 2 2 (signP x).2).2)
    have r3 := signP_one x
    unfold offsetP at k
    simp only [] at k
    generalize hH : (numberP 2 2 (signP x).2) = H at *
    generalize hM : (numberP 2 2 (wantsP p H.2)) = M at *
    generalize (signP x).1 = sg at *
    refine jni (fun vs W' => vs = [.int .i64 sg, .int .i64 H.1, .int .i64 M.1] ∧ St w0 G (Ky b (RdO (badIf (decide (23 < H.1 ∨ 59 < M.1)) M.2)) :: R) W') ?_ ?_
    · rintro vs W5 _ ⟨rfl, h⟩
      refine app3 ?_
      refine a_mul64 (by omega) (by omega) (a_mul64 (by omega) (by omega) (a_add64 (by omega) (by omega) ?_))
      refine a_mul64 (by rcases r3 with rfl | rfl <;> omega) (by rcases r3 with rfl | rfl <;> omega) ?_
      exact k W5 h
    · refine a_gtr (ifd (fun h1 => ?_) fun h1 => a_gtr (ifd (fun h2 => ?_) fun h2 => ?_))
      · refine a_nil (a_fld0 (h.store fun W' h => ⟨rfl, ?_⟩))
        unfold badIf; rw [decide_eq_true (.inl h1), Bool.or_true]; exact h
      · refine a_nil (a_fld0 (h.store fun W' h => ⟨rfl, ?_⟩))
        unfold badIf; rw [decide_eq_true (.inr h2), Bool.or_true]; exact h
      · refine ⟨rfl, ?_⟩
        unfold badIf; rw [decide_eq_false (by omega), Bool.or_false]; exact h
  · refine eats_spec (x := x) (p := [43]) h fun W1 h => ?_
    refine a_not (ifnb (fun hp => ?_) fun hp => ?_)
    · refine wants_spec (x := eatsP [43] x) (p := [45]) h fun W2 h => ⟨?_, ?_⟩
      · unfold signP; rw [hp]; rfl
      · unfold signP; rw [hp]; exact h
    · refine ⟨?_, ?_⟩
      · unfold signP; rw [hp]; rfl
      · unfold signP; rw [hp]; exact h
theorem makeP_rng (y mo d h mi s : Int) : 0 ≤ (makeP y mo d h mi s).1 ∧ (makeP y mo d h mi s).1 ≤ 300000000000 := by
  unfold makeP
  cases hok : okM y mo d h mi s
  · simp
  · obtain ⟨h1, h2, h3, h4, h5, h6, h7, h8, h9, h10, h11, h12⟩ := of_decide_eq_true hok
    have hl := lenM_le y mo
    obtain ⟨hf, hf'⟩ := firstD_rng h1 (by omega)
    have s1 := sumL_ge y (mo - 1).toNat
    have s2 := sumL_le y (mo - 1).toNat
    simp only [secN, dayN, if_true]
    omega
/-- (*reader).second -/
theorem second_spec {y mo d hh mi c off : Int} [i : Has l b (RdO x) R] (h : St w0 G l W) (ho : -400000 ≤ off ∧ off ≤ 400000) (k : ∀ W', St w0 G (Ky b (RdO x) :: R) W' → RR (.tuple #[.int .i64 (secondP x y mo d hh mi c off).1, .int .i64 (secondP x y mo d hh mi c off).2]) W') :
    CallF Tryd.prog 61 #[.pointer (some ⟨b, 0, none⟩), .agg #[.int .i64 y, .int .i64 mo, .int .i64 d, .int .i64 hh, .int .i64 mi, .int .i64 c, .int .i64 off]] W RR := by
  refine sh61_calls ?_
  unfold sh61
  replace h := h.find (k := b) (X := RdO x)
  refine h.boxS fun q W h => ?_
  refine a_nil (a_fld0 (h.load ?_))
  unfold secondP at k
  refine ifb (fun hb => ?_) fun hb => ?_
  · rw [hb] at k; exact k W h.to
  rw [hb, Bool.false_or] at k
  refine a_nil (a_fld0 (h.load (w_neqL (b := []) (ifd (fun hs => ?_) fun hs => ?_))))
  · rw [decide_eq_true hs] at k; exact k W h.to
  rw [decide_eq_false hs] at k
  simp only [Bool.false_eq_true, if_false] at k
  have hr := makeP_rng y mo d hh mi c
  unfold rangeP at k
  (repeat (first | (with_reducible refine ift ?_) | (with_reducible refine iff' ?_) | (with_reducible refine a_lss ?_) | (with_reducible refine a_leq ?_) | (with_reducible refine a_gtr ?_) | (with_reducible refine a_geq ?_) | (with_reducible refine w_eql ?_) | (with_reducible refine w_neq ?_) | (with_reducible refine s_eql ?_) | (with_reducible refine s_neq ?_) | ((with_reducible refine a_add64 ?h0 ?h1 ?_); (case h0 => omega); (case h1 => omega);  skip) | ((with_reducible refine a_sub64 ?h0 ?h1 ?_); (case h0 => omega); (case h1 => omega);  skip) | ((with_reducible refine a_mul64 ?h0 ?h1 ?_); (case h0 => omega); (case h1 => omega);  skip) | (with_reducible refine a_notd ?_) | (with_reducible refine a_not ?_) | (with_reducible refine a_ext0 ?_) | (with_reducible refine a_ext1 ?_) | (with_reducible refine a_ext2 ?_) | (with_reducible refine x_len ?_) | (with_reducible refine x_lens ?_) | (with_reducible refine x_eqb ?_) | (with_reducible refine x_neb ?_) | (with_reducible refine x_nilP ?_) | (with_reducible refine x_nilPn ?_) | (with_reducible refine x_nilF ?_) | (with_reducible refine x_nilFF ?_) | (with_reducible refine w_eqlL ?_) | (with_reducible refine w_neqL ?_) | (with_reducible refine s_eqlL ?_) | (with_reducible refine ifnt ?_) | (with_reducible refine ifnf ?_) | (with_reducible refine x_eqB ?_) | (with_reducible refine x_neB ?_) | (with_reducible refine x_lssL ?_) | (with_reducible refine x_gtrL ?_) | (with_reducible refine x_geqL ?_) | (with_reducible refine s_neqL ?_) | (with_reducible refine St.load h ?_) | (with_reducible refine St.loadS h ?_) | (with_reducible refine a_fld0 ?_) | (with_reducible refine St.store h fun W h => ?_) | (with_reducible refine St.storeS h fun W h => ?_) | (with_reducible refine St.alloc h fun b W h => ?_) | (with_reducible refine St.allocS h fun b W h => ?_) | (with_reducible refine a_nil ?_) | (with_reducible refine ss_load ?_) | (with_reducible refine ss_loadS ?_) | (with_reducible refine ss_eqb ?_)))
  refine make_spec ?_
  refine a_ext0 (a_ext1 (a_not (ifnb (fun hm => ?_) fun hm => ?_)))
  · rw [hm] at k; exact k W h.to
  rw [hm, Bool.true_and] at k
  (repeat (first | (with_reducible refine ift ?_) | (with_reducible refine iff' ?_) | (with_reducible refine a_lss ?_) | (with_reducible refine a_leq ?_) | (with_reducible refine a_gtr ?_) | (with_reducible refine a_geq ?_) | (with_reducible refine w_eql ?_) | (with_reducible refine w_neq ?_) | (with_reducible refine s_eql ?_) | (with_reducible refine s_neq ?_) | ((with_reducible refine a_add64 ?h0 ?h1 ?_); (case h0 => omega); (case h1 => omega);  skip) | ((with_reducible refine a_sub64 ?h0 ?h1 ?_); (case h0 => omega); (case h1 => omega);  skip) | ((with_reducible refine a_mul64 ?h0 ?h1 ?_); (case h0 => omega); (case h1 => omega);  skip) | (with_reducible refine a_notd ?_) | (with_reducible refine a_not ?_) | (with_reducible refine a_ext0 ?_) | (with_reducible refine a_ext1 ?_) | (with_reducible refine a_ext2 ?_) | (with_reducible refine x_len ?_) | (with_reducible refine x_lens ?_) | (with_reducible refine x_eqb ?_) | (with_reducible refine x_neb ?_) | (with_reducible refine x_nilP ?_) | (with_reducible refine x_nilPn ?_) | (with_reducible refine x_nilF ?_) | (with_reducible refine x_nilFF ?_) | (with_reducible refine w_eqlL ?_) | (with_reducible refine w_neqL ?_) | (with_reducible refine s_eqlL ?_) | (with_reducible refine ifnt ?_) | (with_reducible refine ifnf ?_) | (with_reducible refine x_eqB ?_) | (with_reducible refine x_neB ?_) | (with_reducible refine x_lssL ?_) | (with_reducible refine x_gtrL ?_) | (with_reducible refine x_geqL ?_) | (with_reducible refine s_neqL ?_) | (with_reducible refine St.load h ?_) | (with_reducible refine St.loadS h ?_) | (with_reducible refine a_fld0 ?_) | (with_reducible refine St.store h fun W h => ?_) | (with_reducible refine St.storeS h fun W h => ?_) | (with_reducible refine St.alloc h fun b W h => ?_) | (with_reducible refine St.allocS h fun b W h => ?_) | (with_reducible refine a_nil ?_) | (with_reducible refine ss_load ?_) | (with_reducible refine ss_loadS ?_) | (with_reducible refine ss_eqb ?_)))
  refine within_spec ?_
  refine a_not (ifnb (fun hm => ?_) fun hm => ?_)
  · rw [hm] at k; exact k W h.to
  rw [hm] at k
  (repeat (first | (with_reducible refine ift ?_) | (with_reducible refine iff' ?_) | (with_reducible refine a_lss ?_) | (with_reducible refine a_leq ?_) | (with_reducible refine a_gtr ?_) | (with_reducible refine a_geq ?_) | (with_reducible refine w_eql ?_) | (with_reducible refine w_neq ?_) | (with_reducible refine s_eql ?_) | (with_reducible refine s_neq ?_) | ((with_reducible refine a_add64 ?h0 ?h1 ?_); (case h0 => omega); (case h1 => omega);  skip) | ((with_reducible refine a_sub64 ?h0 ?h1 ?_); (case h0 => omega); (case h1 => omega);  skip) | ((with_reducible refine a_mul64 ?h0 ?h1 ?_); (case h0 => omega); (case h1 => omega);  skip) | (with_reducible refine a_notd ?_) | (with_reducible refine a_not ?_) | (with_reducible refine a_ext0 ?_) | (with_reducible refine a_ext1 ?_) | (with_reducible refine a_ext2 ?_) | (with_reducible refine x_len ?_) | (with_reducible refine x_lens ?_) | (with_reducible refine x_eqb ?_) | (with_reducible refine x_neb ?_) | (with_reducible refine x_nilP ?_) | (with_reducible refine x_nilPn ?_) | (with_reducible refine x_nilF ?_) | (with_reducible refine x_nilFF ?_) | (with_reducible refine w_eqlL ?_) | (with_reducible refine w_neqL ?_) | (with_reducible refine s_eqlL ?_) | (with_reducible refine ifnt ?_) | (with_reducible refine ifnf ?_) | (with_reducible refine x_eqB ?_) | (with_reducible refine x_neB ?_) | (with_reducible refine x_lssL ?_) | (with_reducible refine x_gtrL ?_) | (with_reducible refine x_geqL ?_) | (with_reducible refine s_neqL ?_) | (with_reducible refine St.load h ?_) | (with_reducible refine St.loadS h ?_) | (with_reducible refine a_fld0 ?_) | (with_reducible refine St.store h fun W h => ?_) | (with_reducible refine St.storeS h fun W h => ?_) | (with_reducible refine St.alloc h fun b W h => ?_) | (with_reducible refine St.allocS h fun b W h => ?_) | (with_reducible refine a_nil ?_) | (with_reducible refine ss_load ?_) | (with_reducible refine ss_loadS ?_) | (with_reducible refine ss_eqb ?_)))
  exact k W h.to
/-- (*reader).fraction -/
theorem fraction_spec [i : Has l b (RdO x) R] (h : St w0 G l W) (k : ∀ W', St w0 G (Ky b (RdO (fractionP x)) :: R) W' → RR (.tuple #[]) W') : CallF Tryd.prog 64 #[.pointer (some ⟨b, 0, none⟩)] W RR := by
  refine sh64_calls ?_
  unfold sh64
  refine eats_spec (x := x) (p := [46]) h fun W1 h => ?_
  unfold fractionP at k
  refine ifb (fun hp => ?_) fun hp => ?_
  · rw [hp] at k
    simp only [if_true] at k
    refine number_spec (x := eatsP [46] x) (least := 1) (most := 1) h (by decide) (by decide) fun W2 h => ?_
    refine a_nil (a_fld0 (h.load ?_))
    refine trim_spec h fun W3 h => ?_
    refine a_nil (a_fld0 (h.store fun W' h => ?_))
    exact k W' h
  · rw [hp] at k
    simp only [Bool.false_eq_true, if_false] at k
    exact k W1 h
theorem zedP_rng (x : RSt) : -400000 ≤ (zedP x).1 ∧ (zedP x).1 ≤ 400000 := by
  unfold zedP
  split
  · simp
  split
  · simp
  · exact offsetP_rng _
/-- Net -/
theorem net_spec (h : St w0 G l W) (k : ∀ W', St w0 G l W' → RR (.tuple #[.int .i64 (netP s).1, .int .i64 (netP s).2]) W') : CallF Tryd.prog 29 #[strV s] W RR := by
  refine sh29_calls ?_
  unfold sh29
  refine x_bld (cells := #[strV s, .bool false]) rfl ?_
  refine h.boxS (cs := [strV s, .bool false]) fun b W h => ?_
  refine h.allocS fun q W h => ?_
  unfold netP at k
  simp only [] at k
  refine number_spec (x := (s, false)) (least := 4) (most := 4) h (by decide) (by decide) fun W h => ?_
  generalize hY : numberP 4 4 (s, false) = Y at *
  (repeat (first | (with_reducible refine ift ?_) | (with_reducible refine iff' ?_) | (with_reducible refine a_lss ?_) | (with_reducible refine a_leq ?_) | (with_reducible refine a_gtr ?_) | (with_reducible refine a_geq ?_) | (with_reducible refine w_eql ?_) | (with_reducible refine w_neq ?_) | (with_reducible refine s_eql ?_) | (with_reducible refine s_neq ?_) | ((with_reducible refine a_add64 ?h0 ?h1 ?_); (case h0 => omega); (case h1 => omega);  skip) | ((with_reducible refine a_sub64 ?h0 ?h1 ?_); (case h0 => omega); (case h1 => omega);  skip) | ((with_reducible refine a_mul64 ?h0 ?h1 ?_); (case h0 => omega); (case h1 => omega);  skip) | (with_reducible refine a_notd ?_) | (with_reducible refine a_not ?_) | (with_reducible refine a_ext0 ?_) | (with_reducible refine a_ext1 ?_) | (with_reducible refine a_ext2 ?_) | (with_reducible refine x_len ?_) | (with_reducible refine x_lens ?_) | (with_reducible refine x_eqb ?_) | (with_reducible refine x_neb ?_) | (with_reducible refine x_nilP ?_) | (with_reducible refine x_nilPn ?_) | (with_reducible refine x_nilF ?_) | (with_reducible refine x_nilFF ?_) | (with_reducible refine w_eqlL ?_) | (with_reducible refine w_neqL ?_) | (with_reducible refine s_eqlL ?_) | (with_reducible refine ifnt ?_) | (with_reducible refine ifnf ?_) | (with_reducible refine x_eqB ?_) | (with_reducible refine x_neB ?_) | (with_reducible refine x_lssL ?_) | (with_reducible refine x_gtrL ?_) | (with_reducible refine x_geqL ?_) | (with_reducible refine s_neqL ?_) | (with_reducible refine St.load h ?_) | (with_reducible refine St.loadS h ?_) | (with_reducible refine a_fld0 ?_) | (with_reducible refine St.store h fun W h => ?_) | (with_reducible refine St.storeS h fun W h => ?_) | (with_reducible refine St.alloc h fun b W h => ?_) | (with_reducible refine St.allocS h fun b W h => ?_) | (with_reducible refine a_nil ?_) | (with_reducible refine ss_load ?_) | (with_reducible refine ss_loadS ?_) | (with_reducible refine ss_eqb ?_)))
  refine wants_spec (x := Y.2) (p := [45]) h fun W h => ?_
  refine number_spec (x := wantsP [45] Y.2) (least := 2) (most := 2) h (by decide) (by decide) fun W h => ?_
  generalize hM : numberP 2 2 (wantsP [45] Y.2) = M at *
  (repeat (first | (with_reducible refine ift ?_) | (with_reducible refine iff' ?_) | (with_reducible refine a_lss ?_) | (with_reducible refine a_leq ?_) | (with_reducible refine a_gtr ?_) | (with_reducible refine a_geq ?_) | (with_reducible refine w_eql ?_) | (with_reducible refine w_neq ?_) | (with_reducible refine s_eql ?_) | (with_reducible refine s_neq ?_) | ((with_reducible refine a_add64 ?h0 ?h1 ?_); (case h0 => omega); (case h1 => omega);  skip) | ((with_reducible refine a_sub64 ?h0 ?h1 ?_); (case h0 => omega); (case h1 => omega);  skip) | ((with_reducible refine a_mul64 ?h0 ?h1 ?_); (case h0 => omega); (case h1 => omega);  skip) | (with_reducible refine a_notd ?_) | (with_reducible refine a_not ?_) | (with_reducible refine a_ext0 ?_) | (with_reducible refine a_ext1 ?_) | (with_reducible refine a_ext2 ?_) | (with_reducible refine x_len ?_) | (with_reducible refine x_lens ?_) | (with_reducible refine x_eqb ?_) | (with_reducible refine x_neb ?_) | (with_reducible refine x_nilP ?_) | (with_reducible refine x_nilPn ?_) | (with_reducible refine x_nilF ?_) | (with_reducible refine x_nilFF ?_) | (with_reducible refine w_eqlL ?_) | (with_reducible refine w_neqL ?_) | (with_reducible refine s_eqlL ?_) | (with_reducible refine ifnt ?_) | (with_reducible refine ifnf ?_) | (with_reducible refine x_eqB ?_) | (with_reducible refine x_neB ?_) | (with_reducible refine x_lssL ?_) | (with_reducible refine x_gtrL ?_) | (with_reducible refine x_geqL ?_) | (with_reducible refine s_neqL ?_) | (with_reducible refine St.load h ?_) | (with_reducible refine St.loadS h ?_) | (with_reducible refine a_fld0 ?_) | (with_reducible refine St.store h fun W h => ?_) | (with_reducible refine St.storeS h fun W h => ?_) | (with_reducible refine St.alloc h fun b W h => ?_) | (with_reducible refine St.allocS h fun b W h => ?_) | (with_reducible refine a_nil ?_) | (with_reducible refine ss_load ?_) | (with_reducible refine ss_loadS ?_) | (with_reducible refine ss_eqb ?_)))
  refine wants_spec (x := M.2) (p := [45]) h fun W h => ?_
  refine number_spec (x := wantsP [45] M.2) (least := 2) (most := 2) h (by decide) (by decide) fun W h => ?_
  generalize hD : numberP 2 2 (wantsP [45] M.2) = D at *
  (repeat (first | (with_reducible refine ift ?_) | (with_reducible refine iff' ?_) | (with_reducible refine a_lss ?_) | (with_reducible refine a_leq ?_) | (with_reducible refine a_gtr ?_) | (with_reducible refine a_geq ?_) | (with_reducible refine w_eql ?_) | (with_reducible refine w_neq ?_) | (with_reducible refine s_eql ?_) | (with_reducible refine s_neq ?_) | ((with_reducible refine a_add64 ?h0 ?h1 ?_); (case h0 => omega); (case h1 => omega);  skip) | ((with_reducible refine a_sub64 ?h0 ?h1 ?_); (case h0 => omega); (case h1 => omega);  skip) | ((with_reducible refine a_mul64 ?h0 ?h1 ?_); (case h0 => omega); (case h1 => omega);  skip) | (with_reducible refine a_notd ?_) | (with_reducible refine a_not ?_) | (with_reducible refine a_ext0 ?_) | (with_reducible refine a_ext1 ?_) | (with_reducible refine a_ext2 ?_) | (with_reducible refine x_len ?_) | (with_reducible refine x_lens ?_) | (with_reducible refine x_eqb ?_) | (with_reducible refine x_neb ?_) | (with_reducible refine x_nilP ?_) | (with_reducible refine x_nilPn ?_) | (with_reducible refine x_nilF ?_) | (with_reducible refine x_nilFF ?_) | (with_reducible refine w_eqlL ?_) | (with_reducible refine w_neqL ?_) | (with_reducible refine s_eqlL ?_) | (with_reducible refine ifnt ?_) | (with_reducible refine ifnf ?_) | (with_reducible refine x_eqB ?_) | (with_reducible refine x_neB ?_) | (with_reducible refine x_lssL ?_) | (with_reducible refine x_gtrL ?_) | (with_reducible refine x_geqL ?_) | (with_reducible refine s_neqL ?_) | (with_reducible refine St.load h ?_) | (with_reducible refine St.loadS h ?_) | (with_reducible refine a_fld0 ?_) | (with_reducible refine St.store h fun W h => ?_) | (with_reducible refine St.storeS h fun W h => ?_) | (with_reducible refine St.alloc h fun b W h => ?_) | (with_reducible refine St.allocS h fun b W h => ?_) | (with_reducible refine a_nil ?_) | (with_reducible refine ss_load ?_) | (with_reducible refine ss_loadS ?_) | (with_reducible refine ss_eqb ?_)))
  refine jni (fun vs W' => vs = [.pointer (some ⟨b, 0, none⟩), .pointer (some ⟨q, 0, none⟩)] ∧ St w0 G (Ky b (RdO (teeP D.2)) :: Ky q (Ob (.cells [.int .i64 Y.1, .int .i64 M.1, .int .i64 D.1, .int .i64 0, .int .i64 0, .int .i64 0, .int .i64 0].toArray 81 (0, 0))) :: l) W') ?_ ?_
  · rintro vs W _ ⟨rfl, h⟩
    refine app2 ?_
    refine number_spec (x := teeP D.2) (least := 2) (most := 2) h (by decide) (by decide) fun W h => ?_
    generalize hH : numberP 2 2 (teeP D.2) = H at *
    (repeat (first | (with_reducible refine ift ?_) | (with_reducible refine iff' ?_) | (with_reducible refine a_lss ?_) | (with_reducible refine a_leq ?_) | (with_reducible refine a_gtr ?_) | (with_reducible refine a_geq ?_) | (with_reducible refine w_eql ?_) | (with_reducible refine w_neq ?_) | (with_reducible refine s_eql ?_) | (with_reducible refine s_neq ?_) | ((with_reducible refine a_add64 ?h0 ?h1 ?_); (case h0 => omega); (case h1 => omega);  skip) | ((with_reducible refine a_sub64 ?h0 ?h1 ?_); (case h0 => omega); (case h1 => omega);  skip) | ((with_reducible refine a_mul64 ?h0 ?h1 ?_); (case h0 => omega); (case h1 => omega);  skip) | (with_reducible refine a_notd ?_) | (with_reducible refine a_not ?_) | (with_reducible refine a_ext0 ?_) | (with_reducible refine a_ext1 ?_) | (with_reducible refine a_ext2 ?_) | (with_reducible refine x_len ?_) | (with_reducible refine x_lens ?_) | (with_reducible refine x_eqb ?_) | (with_reducible refine x_neb ?_) | (with_reducible refine x_nilP ?_) | (with_reducible refine x_nilPn ?_) | (with_reducible refine x_nilF ?_) | (with_reducible refine x_nilFF ?_) | (with_reducible refine w_eqlL ?_) | (with_reducible refine w_neqL ?_) | (with_reducible refine s_eqlL ?_) | (with_reducible refine ifnt ?_) | (with_reducible refine ifnf ?_) | (with_reducible refine x_eqB ?_) | (with_reducible refine x_neB ?_) | (with_reducible refine x_lssL ?_) | (with_reducible refine x_gtrL ?_) | (with_reducible refine x_geqL ?_) | (with_reducible refine s_neqL ?_) | (with_reducible refine St.load h ?_) | (with_reducible refine St.loadS h ?_) | (with_reducible refine a_fld0 ?_) | (with_reducible refine St.store h fun W h => ?_) | (with_reducible refine St.storeS h fun W h => ?_) | (with_reducible refine St.alloc h fun b W h => ?_) | (with_reducible refine St.allocS h fun b W h => ?_) | (with_reducible refine a_nil ?_) | (with_reducible refine ss_load ?_) | (with_reducible refine ss_loadS ?_) | (with_reducible refine ss_eqb ?_)))
    refine wants_spec (x := H.2) (p := [58]) h fun W h => ?_
    refine number_spec (x := wantsP [58] H.2) (least := 2) (most := 2) h (by decide) (by decide) fun W h => ?_
    generalize hI : numberP 2 2 (wantsP [58] H.2) = I at *
    (repeat (first | (with_reducible refine ift ?_) | (with_reducible refine iff' ?_) | (with_reducible refine a_lss ?_) | (with_reducible refine a_leq ?_) | (with_reducible refine a_gtr ?_) | (with_reducible refine a_geq ?_) | (with_reducible refine w_eql ?_) | (with_reducible refine w_neq ?_) | (with_reducible refine s_eql ?_) | (with_reducible refine s_neq ?_) | ((with_reducible refine a_add64 ?h0 ?h1 ?_); (case h0 => omega); (case h1 => omega);  skip) | ((with_reducible refine a_sub64 ?h0 ?h1 ?_); (case h0 => omega); (case h1 => omega);  skip) | ((with_reducible refine a_mul64 ?h0 ?h1 ?_); (case h0 => omega); (case h1 => omega);  skip) | (with_reducible refine a_notd ?_) | (with_reducible refine a_not ?_) | (with_reducible refine a_ext0 ?_) | (with_reducible refine a_ext1 ?_) | (with_reducible refine a_ext2 ?_) | (with_reducible refine x_len ?_) | (with_reducible refine x_lens ?_) | (with_reducible refine x_eqb ?_) | (with_reducible refine x_neb ?_) | (with_reducible refine x_nilP ?_) | (with_reducible refine x_nilPn ?_) | (with_reducible refine x_nilF ?_) | (with_reducible refine x_nilFF ?_) | (with_reducible refine w_eqlL ?_) | (with_reducible refine w_neqL ?_) | (with_reducible refine s_eqlL ?_) | (with_reducible refine ifnt ?_) | (with_reducible refine ifnf ?_) | (with_reducible refine x_eqB ?_) | (with_reducible refine x_neB ?_) | (with_reducible refine x_lssL ?_) | (with_reducible refine x_gtrL ?_) | (with_reducible refine x_geqL ?_) | (with_reducible refine s_neqL ?_) | (with_reducible refine St.load h ?_) | (with_reducible refine St.loadS h ?_) | (with_reducible refine a_fld0 ?_) | (with_reducible refine St.store h fun W h => ?_) | (with_reducible refine St.storeS h fun W h => ?_) | (with_reducible refine St.alloc h fun b W h => ?_) | (with_reducible refine St.allocS h fun b W h => ?_) | (with_reducible refine a_nil ?_) | (with_reducible refine ss_load ?_) | (with_reducible refine ss_loadS ?_) | (with_reducible refine ss_eqb ?_)))
    refine wants_spec (x := I.2) (p := [58]) h fun W h => ?_
    refine number_spec (x := wantsP [58] I.2) (least := 2) (most := 2) h (by decide) (by decide) fun W h => ?_
    generalize hC : numberP 2 2 (wantsP [58] I.2) = C at *
    (repeat (first | (with_reducible refine ift ?_) | (with_reducible refine iff' ?_) | (with_reducible refine a_lss ?_) | (with_reducible refine a_leq ?_) | (with_reducible refine a_gtr ?_) | (with_reducible refine a_geq ?_) | (with_reducible refine w_eql ?_) | (with_reducible refine w_neq ?_) | (with_reducible refine s_eql ?_) | (with_reducible refine s_neq ?_) | ((with_reducible refine a_add64 ?h0 ?h1 ?_); (case h0 => omega); (case h1 => omega);  skip) | ((with_reducible refine a_sub64 ?h0 ?h1 ?_); (case h0 => omega); (case h1 => omega);  skip) | ((with_reducible refine a_mul64 ?h0 ?h1 ?_); (case h0 => omega); (case h1 => omega);  skip) | (with_reducible refine a_notd ?_) | (with_reducible refine a_not ?_) | (with_reducible refine a_ext0 ?_) | (with_reducible refine a_ext1 ?_) | (with_reducible refine a_ext2 ?_) | (with_reducible refine x_len ?_) | (with_reducible refine x_lens ?_) | (with_reducible refine x_eqb ?_) | (with_reducible refine x_neb ?_) | (with_reducible refine x_nilP ?_) | (with_reducible refine x_nilPn ?_) | (with_reducible refine x_nilF ?_) | (with_reducible refine x_nilFF ?_) | (with_reducible refine w_eqlL ?_) | (with_reducible refine w_neqL ?_) | (with_reducible refine s_eqlL ?_) | (with_reducible refine ifnt ?_) | (with_reducible refine ifnf ?_) | (with_reducible refine x_eqB ?_) | (with_reducible refine x_neB ?_) | (with_reducible refine x_lssL ?_) | (with_reducible refine x_gtrL ?_) | (with_reducible refine x_geqL ?_) | (with_reducible refine s_neqL ?_) | (with_reducible refine St.load h ?_) | (with_reducible refine St.loadS h ?_) | (with_reducible refine a_fld0 ?_) | (with_reducible refine St.store h fun W h => ?_) | (with_reducible refine St.storeS h fun W h => ?_) | (with_reducible refine St.alloc h fun b W h => ?_) | (with_reducible refine St.allocS h fun b W h => ?_) | (with_reducible refine a_nil ?_) | (with_reducible refine ss_load ?_) | (with_reducible refine ss_loadS ?_) | (with_reducible refine ss_eqb ?_)))
    refine fraction_spec (x := C.2) h fun W h => ?_
    generalize hF : fractionP C.2 = F at *
    have hz := zedP_rng F
    refine jni (fun vs W' => vs = [.pointer (some ⟨b, 0, none⟩), .pointer (some ⟨q, 0, none⟩)] ∧ St w0 G (Ky b (RdO (zedP F).2) :: Ky q (Ob (.cells [.int .i64 Y.1, .int .i64 M.1, .int .i64 D.1, .int .i64 H.1, .int .i64 I.1, .int .i64 C.1, .int .i64 (zedP F).1].toArray 81 (0, 0))) :: l) W') ?_ ?_
    · rintro vs W _ ⟨rfl, h⟩
      refine app2 ?_
      replace h := h.find (k := q) (X := Ob (.cells [.int .i64 Y.1, .int .i64 M.1, .int .i64 D.1, .int .i64 H.1, .int .i64 I.1, .int .i64 C.1, .int .i64 (zedP F).1].toArray 81 (0, 0)))
      refine h.loadS ?_
      refine second_spec (x := (zedP F).2) h hz fun W h => ?_
      refine a_ext0 (a_ext1 ?_)
      exact k W h.to
    · refine eats_spec (x := F) (p := [90]) h fun W h => ?_
      refine a_not (ifnb (fun hp => ?_) fun hp => ?_)
      · refine eats_spec (x := eatsP [90] F) (p := [122]) h fun W h => ?_
        refine a_not (ifnb (fun hp2 => ?_) fun hp2 => ?_)
        · refine offset_spec (x := eatsP [122] (eatsP [90] F)) (p := [58]) h fun W h => ?_
          (repeat (first | (with_reducible refine ift ?_) | (with_reducible refine iff' ?_) | (with_reducible refine a_lss ?_) | (with_reducible refine a_leq ?_) | (with_reducible refine a_gtr ?_) | (with_reducible refine a_geq ?_) | (with_reducible refine w_eql ?_) | (with_reducible refine w_neq ?_) | (with_reducible refine s_eql ?_) | (with_reducible refine s_neq ?_) | ((with_reducible refine a_add64 ?h0 ?h1 ?_); (case h0 => omega); (case h1 => omega);  skip) | ((with_reducible refine a_sub64 ?h0 ?h1 ?_); (case h0 => omega); (case h1 => omega);  skip) | ((with_reducible refine a_mul64 ?h0 ?h1 ?_); (case h0 => omega); (case h1 => omega);  skip) | (with_reducible refine a_notd ?_) | (with_reducible refine a_not ?_) | (with_reducible refine a_ext0 ?_) | (with_reducible refine a_ext1 ?_) | (with_reducible refine a_ext2 ?_) | (with_reducible refine x_len ?_) | (with_reducible refine x_lens ?_) | (with_reducible refine x_eqb ?_) | (with_reducible refine x_neb ?_) | (with_reducible refine x_nilP ?_) | (with_reducible refine x_nilPn ?_) | (with_reducible refine x_nilF ?_) | (with_reducible refine x_nilFF ?_) | (with_reducible refine w_eqlL ?_) | (with_reducible refine w_neqL ?_) | (with_reducible refine s_eqlL ?_) | (with_reducible refine ifnt ?_) | (with_reducible refine ifnf ?_) | (with_reducible refine x_eqB ?_) | (with_reducible refine x_neB ?_) | (with_reducible refine x_lssL ?_) | (with_reducible refine x_gtrL ?_) | (with_reducible refine x_geqL ?_) | (with_reducible refine s_neqL ?_) | (with_reducible refine St.load h ?_) | (with_reducible refine St.loadS h ?_) | (with_reducible refine a_fld0 ?_) | (with_reducible refine St.store h fun W h => ?_) | (with_reducible refine St.storeS h fun W h => ?_) | (with_reducible refine St.alloc h fun b W h => ?_) | (with_reducible refine St.allocS h fun b W h => ?_) | (with_reducible refine a_nil ?_) | (with_reducible refine ss_load ?_) | (with_reducible refine ss_loadS ?_) | (with_reducible refine ss_eqb ?_)))
          have e : zedP F = offsetP [58] (eatsP [122] (eatsP [90] F)) := by unfold zedP; simp [hp, show isPreD [122] (eatS F.1 [90]) = false from hp2]
          rw [e]
          exact ⟨rfl, h.to⟩
        · have e : zedP F = (0, eatsP [122] (eatsP [90] F)) := by unfold zedP; simp [hp, show isPreD [122] (eatS F.1 [90]) = true from hp2]
          rw [e]
          exact ⟨rfl, h⟩
      · have e : zedP F = (0, eatsP [90] F) := by unfold zedP; simp [hp]
        rw [e]
        exact ⟨rfl, h⟩
  · refine eats_spec (x := D.2) (p := [84]) h fun W h => ?_
    refine a_not (ifnb (fun hp => ?_) fun hp => ?_)
    · refine wants_spec (x := eatsP [84] D.2) (p := [116]) h fun W h => ?_
      have e : teeP D.2 = wantsP [116] (eatsP [84] D.2) := by unfold teeP; simp [hp]
      rw [e]
      exact ⟨rfl, h⟩
    · have e : teeP D.2 = eatsP [84] D.2 := by unfold teeP; simp [hp]
      rw [e]
      exact ⟨rfl, h⟩
end
end Go.Proofs.YtififikdlcohpaaDoor
