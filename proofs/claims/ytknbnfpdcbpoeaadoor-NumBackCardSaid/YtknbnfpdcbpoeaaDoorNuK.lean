/-
  NumBack: the walk.
-/
import Derived.Test.YtknbnfpdcbpoeaaDoorNuH
import Derived.Test.YtknbnfpdcbpoeaaDoorNuV
namespace Go.Proofs.YtknbnfpdcbpoeaaDoor
open Go Go.Ez Go.RowKit Go.Lib
set_option linter.unusedSimpArgs false
set_option linter.unusedVariables false
section
variable {w0 W W' : World} {l R : List As} {RR : Value → World → Prop} {t s : Txt} {c : UInt8} {b n : Nat} {v : Value}
theorem putR_len {n width : Int} : (putR n width).1.length ≤ 6 ∧ ((putR n width).2 = 0 → 1 ≤ width ∧ width ≤ 6 ∧ 0 ≤ n ∧ n.toNat < 256 ^ width.toNat ∧ (putR n width).1 = be n.toNat width.toNat) := by
  unfold putR
  split
  · exact ⟨by simp, fun h => by cases h⟩
  · rename_i hc
    have e : (2 : Nat) ^ (8 * width.toNat) = 256 ^ width.toNat := by rw [Nat.pow_mul]
    rw [e] at hc
    exact ⟨by rw [be_length]; omega, fun _ => ⟨by omega, by omega, by omega, by omega, rfl⟩⟩
theorem put_get {q : Txt} {n width : Int} (h : (putR n width).2 = 0) : getR (q ++ (putR n width).1) q.length width = (n.toNat, 0) := by
  obtain ⟨h1, h2, h3, h4, h5⟩ := putR_len.2 h
  obtain ⟨m, rfl⟩ := Int.eq_ofNat_of_zero_le (show 0 ≤ width by omega)
  rw [h5, Int.toNat_natCast] at *
  rw [getR_in (by omega) (by omega) (by rw [List.length_append, be_length]; omega), List.drop_left, List.take_of_length_le (by rw [be_length]; omega), be_mod, Nat.mod_eq_of_lt h4]
theorem var_read {q : Txt} {n : Int} (h : (varR n).2 = 0) : readV (q ++ (varR n).1 ++ [7]) q.length = (n.toNat, q.length + (varR n).1.length, 0) := by
  obtain ⟨h1, h2, h3⟩ := varR_ok h
  unfold readV
  rw [if_neg (by simp only [List.length_append]; omega), Int.toNat_natCast, List.append_assoc, List.drop_left, h3, rdv_back (by omega)]
  rfl
theorem readV_le (q : Txt) (a : Int) : (readV q a).2.2 = 0 ∨ (readV q a).2.2 ≠ 0 := Classical.em _
/-- hbllaw1.NumBack -/
theorem nback_spec {n width : Int} {q : Txt} (hT : PowTab w0) (h : St w0 G0 l W) (hv : By w0 v q) (hn : n ≤ 9223372036854775807) (k : ∀ W', St w0 G0 l W' → RR (.bool true) W') :
    CallF Tryd.prog 8 #[.int .i64 n, .int .i64 width, v] W RR := by
  refine sh8_calls ?_
  unfold sh8
  refine first1_spec hT h fun W h => ?_
  refine a_not (iff' ?_)
  refine x_lenS hv (a_gtr (ifd (fun _ => first1_spec hT h k) fun c1 => ?_))
  refine hex_spec h hv (by omega) fun W h => ?_
  refine unhex_spec h (by rw [hexS_len]; omega) fun u W ou h => ?_
  rw [unhR_hex] at h ⊢
  refine a_ext0 (a_ext1 ?_)
  refine uput_spec h hn fun x W ox h => a_ext0 (a_ext1 ?_)
  refine var_spec h hn fun y W oy h => a_ext0 (a_ext1 ?_)
  obtain ⟨pl, pr⟩ := putR_len (n := n) (width := width)
  have vl := varR_len (n := n)
  refine jni (fun vs W' => vs = [.int .i64 n, .int .i64 width, v, x, nV .i64 (putR n width).2, y, nV .i64 (varR n).2] ∧ W' = W) ?_ ?_
  rotate_left
  · refine a_not (iff' ?_)
    refine bytes_spec (h.osl (v := u)) (hv.below h.low) ?_
    rw [decide_eq_true (show (some q).getD [] = q from rfl)]
    refine a_not (iff' ?_)
    have hi := varR_iff n
    refine w_eql (a_geq (ifd (fun g1 => a_lss (x_neb ?_)) fun g1 => x_neb ?_))
    · have : (decide (((varR n).2 : Int) = 0) == decide (n < 72057594037927936)) = true := by
        have e : decide (((varR n).2 : Int) = 0) = decide (n < 72057594037927936) := decide_eq_decide.2 (by constructor <;> intro hh <;> omega)
        rw [e]; exact beq_self_eq_true _
      rw [this]; exact iff' ⟨rfl, rfl⟩
    · have : (decide (((varR n).2 : Int) = 0) == false) = true := by
        rw [decide_eq_false (by omega)]; rfl
      rw [this]; exact iff' ⟨rfl, rfl⟩
  rintro vs W' _ ⟨rfl, rfl⟩
  refine app7 ?_
  refine ucopy_spec h (hv.below h.low) (by omega) fun p W op h => ?_
  refine h.app (v := p) (h.osl (v := x)) (bytesV_one _) (by unfold maxLen; omega) (by omega) fun p' W op' h _ => ?_
  have hp := h.osl (v := p')
  rw [← bytesV_append, ← List.length_append] at hp
  refine x_lenS hv ?_
  refine get_spec (l := q ++ (putR n width).1) hp (by rw [List.length_append]; omega) (by omega) ?_
  refine a_ext0 (a_ext1 ?_)
  refine ucopy_spec h (hv.below h.low) (by omega) fun r W or h => ?_
  refine h.app (v := r) (h.osl (v := y)) (bytesV_one _) (by unfold maxLen; omega) (by omega) fun r' W or' h _ => ?_
  refine h.push (v := r') (x := .int .u8 7) (by unfold maxLen; omega) (by omega) fun r2 W or2 h _ => ?_
  have hr := h.osl (v := r2)
  have er : bytesV q ++ bytesV (varR n).1 ++ [Value.int .u8 7] = bytesV (q ++ (varR n).1 ++ [7]) := by rw [bytesV_append, bytesV_append]; rfl
  have el : q.length + (varR n).1.length + 1 = (q ++ (varR n).1 ++ [7]).length := by simp only [List.length_append, List.length_singleton]
  rw [er, el] at hr
  refine x_lenS hv ?_
  refine readv_spec (l := q ++ (varR n).1 ++ [7]) hr (by simp only [List.length_append, List.length_singleton]; omega) (by omega) ?_
  refine a_ext0 (a_ext1 (a_ext2 ?_))
  have hx := h.osl (v := x)
  have hy := h.osl (v := y)
  refine jni (fun vs W' => vs = [.int .i64 n, .int .i64 width, x, nV .i64 (putR n width).2, nV .i64 (getR (q ++ (putR n width).1) q.length width).1, nV .i64 (getR (q ++ (putR n width).1) q.length width).2] ∧ W' = W) ?_ ?_
  rotate_left
  · refine w_eql (ifd (fun g1 => ?_) fun _ => ⟨rfl, rfl⟩)
    have g1' : (varR n).2 = 0 := by omega
    obtain ⟨n1, n2, n3⟩ := varR_ok g1'
    rw [var_read g1']
    refine w_neq (ifd_neg (by simp) ?_)
    refine w_neq (ifd_neg (by simp only; omega) ?_)
    refine x_lenS hv (x_lenS hy (a_add64 (by omega) (by omega) (w_neq (ifd_neg (by simp only; push_cast; omega) ?_))))
    have := varR_pos g1'
    refine x_lenS hy (a_lss (ifd_neg (by omega) ?_))
    exact x_lenS hy (a_gtr (ifd_neg (by omega) ⟨rfl, rfl⟩))
  rintro vs W' _ ⟨rfl, rfl⟩
  refine app6 ?_
  refine first1_spec hT h fun W h => ift ?_
  have hx := h.osl (v := x)
  refine w_neq (ifd (fun _ => k W h.to) fun g1 => ?_)
  have g1' : (putR n width).2 = 0 := by omega
  obtain ⟨h1, h2, h3, h4, h5⟩ := pr g1'
  rw [put_get g1']
  refine w_eql (ifd_pos rfl ?_)
  refine w_eql (ifd_pos (by simp only; omega) ?_)
  refine x_lenS hx (w_eql ?_)
  rw [decide_eq_true (by rw [h5, be_length]; omega)]
  exact k W h.to
end
end Go.Proofs.YtknbnfpdcbpoeaaDoor
