/-
  TextBack, TextJoins: the walks.
-/
import Derived.Test.YtififikdlcohpaaDoorTtU
import Derived.Test.YtififikdlcohpaaDoorTtV
namespace Go.Proofs.YtififikdlcohpaaDoor
open Go Go.Ez Go.RowKit Go.Lib
set_option linter.unusedSimpArgs false
set_option linter.unusedVariables false
section
variable {w0 W W' : World} {l R : List As} {RR : Value → World → Prop} {t s a b : Txt} {n : Nat} {v : Value}
theorem quote_first : quoteS [97, 10, 34] = ([34, 97, 92, 110, 92, 34, 34], 0) := by decide +kernel
theorem unq_first : unqS [34, 92, 117, 48, 48, 101, 57, 34] 0 = ([195, 169], 8, 0) := by decide +kernel
theorem first3_spec (hT : Tabs w0) (h : St w0 G0 l W) (k : ∀ W', St w0 G0 l W' → RR (.bool true) W') : CallF Tryd.prog 13 #[] W RR := by
  refine sh13_calls ?_
  unfold sh13
  refine tquote_spec (s := [97, 10, 34]) hT h (by decide) fun W h => ?_
  rw [quote_first]
  refine a_ext0 (a_ext1 ?_)
  refine tunq_spec (s := [34, 92, 117, 48, 48, 101, 57, 34]) (a := 0) hT h (by decide) fun W h => ?_
  rw [unq_first]
  refine a_ext0 (a_ext1 (a_ext2 ?_))
  refine w_eql (ifd_pos rfl ?_)
  refine w_eqlL (b := [34, 97, 92, 110, 92, 34, 34]) (ifd_pos rfl ?_)
  refine w_eql (ifd_pos rfl ?_)
  refine w_eqlL (b := [195, 169]) (ifd_pos rfl ?_)
  refine w_eql ?_
  exact k W h
theorem quoteS_yes (hv : validD s = true) : quoteS s = (quoteB s, 0) := by unfold quoteS; rw [if_pos hv]
theorem quoteS_no (hv : validD s = false) : quoteS s = ([], 4) := by unfold quoteS; rw [if_neg (by simp [hv])]
theorem quoteB_len (s : Txt) : (quoteB s).length = (qBs s).length + 2 := by simp [quoteB]
theorem runesL_le (s : Txt) : runeCountL s ≤ s.length := by
  have := runeCount_le ⟨s.toArray⟩
  have e : (⟨s.toArray⟩ : ByteArray).size = s.length := by show s.toArray.size = _; simp
  rw [e] at this
  exact this
/-- hbllaw3.TextBack -/
theorem back3_spec (hT : Tabs w0) (h : St w0 G0 l W) (k : ∀ W', St w0 G0 l W' → RR (.bool true) W') : CallF Tryd.prog 3 #[strV s, strV a, strV b] W RR := by
  refine sh3_calls ?_
  unfold sh3
  refine first3_spec hT h fun W h => ?_
  refine a_not (iff' ?_)
  refine x_len (a_gtr (ifd (fun _ => first3_spec hT h k) fun c1 => ?_))
  refine x_len (a_gtr (ifd (fun _ => first3_spec hT h k) fun c2 => ?_))
  refine x_len (a_gtr (ifd (fun _ => first3_spec hT h k) fun c3 => ?_))
  refine tquote_spec hT h (by omega) fun W h => ?_
  refine a_ext0 (a_ext1 (w_eql ?_))
  refine tvalid_spec hT h (by omega) fun W h => ?_
  cases hv : validD s with
  | false =>
    rw [quoteS_no hv]
    dsimp only
    refine x_neb (iff' ?_)
    refine w_neq (ifd_pos (by simp) ?_)
    refine first3_spec hT h fun W h => ift ?_
    refine w_eqlL (b := []) (ifd_pos rfl ?_)
    refine tcount_spec hT h (by omega) fun W h => ?_
    have : countS s = -1 := by unfold countS; rw [if_neg (by simp [hv])]
    rw [this]
    exact w_eql (k W h)
  | true =>
    rw [quoteS_yes hv]
    dsimp only
    have hql := qBs_len s
    have hqb := quoteB_len s
    refine x_neb (iff' ?_)
    refine w_neq (ifd_neg (by simp) ?_)
    refine x_len (a_lss (ifd_neg (by omega) ?_))
    refine lpx (α := Nat) (fun i => [nV .i64 i]) (fun i W' => i ≤ (quoteB s).length ∧ W' = W) (fun i => (quoteB s).length - i) 0 (fun _ => rfl) rfl ⟨Nat.zero_le _, rfl⟩ ?_
    rintro next i W1 hnext ⟨hi, rfl⟩
    refine app1 ?_
    refine x_len (a_lss (ifd (fun hc => ?_) fun hc => ?_))
    · have hil : i < (quoteB s).length := by omega
      refine x_index (List.getElem?_eq_getElem hil) ?_
      have := quoteB_high s _ (List.getElem_mem hil)
      refine a_lss (ifd_neg (by omega) ?_)
      refine a_add64 (by omega) (by omega) ⟨rfl, rfl, rfl, rfl, ?_⟩
      exact hnext (i + 1) _ (by omega) ⟨by omega, rfl⟩
    · refine a_cat (by omega) (a_cat (by rw [List.length_append]; omega) (x_len ?_))
      refine tunq_spec (a := (a.length : Int)) hT h (by simp only [List.length_append]; omega) fun W h => ?_
      rw [unq_quote hv]
      refine a_ext0 (a_ext1 (a_ext2 ?_))
      refine x_len (a_sub64 (by omega) (by omega) ?_)
      rw [show (((quoteB s).length : Int) - 1) = (((quoteB s).length - 1 : Nat) : Int) by omega]
      refine x_cutH (by omega) ?_
      have et : (quoteB s).take ((quoteB s).length - 1) = 34 :: qBs s := by
        rw [hqb]; unfold quoteB
        rw [show (qBs s).length + 2 - 1 = (qBs s).length + 1 by omega, List.take_succ_cons, List.take_left' rfl]
      rw [et]
      refine tunq_spec (a := 0) hT h (by simp; omega) fun W h => ?_
      have e2 := unq_cut hv
      generalize unqS (34 :: qBs s) 0 = Z at *
      refine a_ext0 (a_ext1 (a_ext2 ?_))
      refine first3_spec hT h fun W h => ift ?_
      refine w_eql (ifd_pos rfl ?_)
      refine w_eqlL (ifd_pos rfl ?_)
      refine x_len (x_len (a_add64 (by omega) (by omega) ?_))
      refine w_eql (ifd_pos (by push_cast; rfl) ?_)
      rw [e2]
      exact w_eql (k W h)
/-- hbllaw3.TextJoins -/
theorem joins3_spec (hT : Tabs w0) (h : St w0 G0 l W) (k : ∀ W', St w0 G0 l W' → RR (.bool true) W') : CallF Tryd.prog 4 #[strV a, strV b] W RR := by
  refine sh4_calls ?_
  unfold sh4
  refine first3_spec hT h fun W h => ?_
  refine a_not (iff' ?_)
  refine x_len (a_gtr (ifd (fun _ => first3_spec hT h k) fun c1 => ?_))
  refine x_len (a_gtr (ifd (fun _ => first3_spec hT h k) fun c2 => ?_))
  refine tquote_spec hT h (by omega) fun W h => ?_
  refine a_ext0 (a_ext1 ?_)
  refine tquote_spec hT h (by omega) fun W h => ?_
  refine a_ext0 (a_ext1 (a_cat (by omega) ?_))
  refine tquote_spec hT h (by rw [List.length_append]; omega) fun W h => ?_
  refine a_ext0 (a_ext1 ?_)
  cases hva : validD a with
  | false =>
    rw [quoteS_no hva]
    exact w_neq (ifd_pos (by simp) (first3_spec hT h k))
  | true =>
    rw [quoteS_yes hva]
    refine w_neq (ifd_neg (by simp) ?_)
    cases hvb : validD b with
    | false =>
      rw [quoteS_no hvb]
      exact w_neq (ifd_pos (by simp) (first3_spec hT h k))
    | true =>
      obtain ⟨v1, v2⟩ := valid_append a.length (b := b) (Nat.le_refl _) hva
      rw [hvb] at v1
      rw [quoteS_yes hvb, quoteS_yes v1]
      dsimp only
      have ha := quoteB_len a
      have hb := quoteB_len b
      have la := qBs_len a
      have lb := qBs_len b
      refine w_neq (ifd_neg (by simp) (w_neq (ifd_neg (by simp) ?_)))
      refine x_len (a_lss (ifd_neg (by omega) ?_))
      refine x_len (a_lss (ifd_neg (by omega) ?_))
      refine ⟨St w0 G0 l, h.drew, ?_⟩
      replace h := h.drew
      refine first3_spec hT h fun W h => ⟨h, ift ?_⟩
      refine x_lens (a_sub64 (by omega) (by omega) ?_)
      rw [show (((quoteB a).length : Int) - 1) = (((quoteB a).length - 1 : Nat) : Int) by omega]
      refine x_cutH (by omega) ?_
      refine x_cutL (lo := 1) (by omega) ?_
      have et : (quoteB a).take ((quoteB a).length - 1) = 34 :: qBs a := by
        rw [ha]; unfold quoteB
        rw [show (qBs a).length + 2 - 1 = (qBs a).length + 1 by omega, List.take_succ_cons, List.take_left' rfl]
      have ed : (quoteB b).drop 1 = qBs b ++ [34] := rfl
      rw [et, ed]
      refine a_cat (by simp; omega) ?_
      have ej : quoteB (a ++ b) = 34 :: qBs a ++ (qBs b ++ [34]) := by unfold quoteB; rw [qBs_append, List.append_assoc]; rfl
      refine s_eqlL (ifd_pos ej ?_)
      refine a_cat (by omega) ?_
      have ca : countS a = (runeCountL a : Nat) := by unfold countS; rw [if_pos hva]
      have cb : countS b = (runeCountL b : Nat) := by unfold countS; rw [if_pos hvb]
      have cc : countS (a ++ b) = (runeCountL (a ++ b) : Nat) := by unfold countS; rw [if_pos v1]
      have ra := runesL_le a
      have rb := runesL_le b
      refine tcount_spec hT h (by rw [List.length_append]; omega) fun W h => ⟨h, ?_⟩
      refine tcount_spec hT h (by omega) fun W h => ⟨h, ?_⟩
      refine tcount_spec hT h (by omega) fun W h => ⟨h, ?_⟩
      rw [ca, cb, cc, v2]
      refine a_add64 (by omega) (by omega) (s_eql ?_)
      have : (((runeCountL a + runeCountL b : Nat) : Int) = (runeCountL a : Int) + (runeCountL b : Int)) := by push_cast; rfl
      rw [decide_eq_true this]
      exact k W h
end
end Go.Proofs.YtififikdlcohpaaDoor
