/-
  NumOrder, NumGets: the walks.
-/
import Derived.Test.YtknbnfpdcbpoeaaDoorNuC
namespace Go.Proofs.YtknbnfpdcbpoeaaDoor
open Go Go.Ez Go.RowKit Go.Lib
set_option linter.unusedSimpArgs false
set_option linter.unusedVariables false
section
variable {w0 W W' : World} {l R : List As} {RR : Value → World → Prop} {t s : Txt} {c : UInt8} {b n : Nat} {v : Value}
theorem digR_no {n w : Int} (h : (digR n w).2 = false) : (digR n w).1 = [] := by
  unfold digR at h ⊢
  split at h
  · rename_i hc; rw [if_pos hc]
  · cases h
theorem digR_yes {n w : Int} (h : (digR n w).2 = true) : ∃ (m k : Nat), n = m ∧ w = k ∧ k ≤ 18 ∧ m < 10 ^ k ∧ (digR n w).1 = dgs m k := by
  unfold digR at h ⊢
  split at h
  · cases h
  · rename_i hc
    rw [if_neg hc]
    obtain ⟨_, p2⟩ := pad_dgs (n := n.toNat) (w := w.toNat) (by omega)
    exact ⟨n.toNat, w.toNat, by omega, by omega, by omega, p2, rfl⟩
theorem varR_err (n : Int) : (varR n).2 = 0 ∨ (varR n).2 = 1 := by unfold varR; split <;> simp
theorem varR_len {n : Int} : (varR n).1.length ≤ 8 := by
  unfold varR
  split
  · exact vrF_len
  · simp
theorem varR_ok {n : Int} (h : (varR n).2 = 0) : 0 ≤ n ∧ n < 72057594037927936 ∧ (varR n).1 = vr n.toNat := by
  unfold varR at h ⊢
  split at h
  · rename_i hc; rw [if_pos hc]; exact ⟨hc.1, hc.2, rfl⟩
  · cases h
/-- hbllaw1.NumOrder -/
theorem order_spec {a b width : Int} (hT : PowTab w0) (h : St w0 G0 l W) (ha : a ≤ 9223372036854775807) (hb : b ≤ 9223372036854775807) (k : ∀ W', St w0 G0 l W' → RR (.bool true) W') :
    CallF Tryd.prog 3 #[.int .i64 a, .int .i64 b, .int .i64 width] W RR := by
  refine sh3_calls ?_
  unfold sh3
  refine first1_spec hT h fun W h => ?_
  refine a_not (iff' ?_)
  refine digits_spec hT h ha fun W h => a_ext0 (a_ext1 ?_)
  refine digits_spec hT h hb fun W h => a_ext0 (a_ext1 ?_)
  refine var_spec h ha fun u W ou h => a_ext0 (a_ext1 ?_)
  refine var_spec h hb fun v W ov h => a_ext0 (a_ext1 ?_)
  have hu := h.osl (v := u)
  have hv := h.osl (v := v)
  have lu := varR_len (n := a)
  have lv := varR_len (n := b)
  refine jni (fun vs W' => vs = [.int .i64 a, .int .i64 b, .int .i64 width, strV (digR a width).1, .bool (digR a width).2, strV (digR b width).1, .bool (digR b width).2] ∧ W' = W) ?_ ?_
  rotate_left
  · refine w_eql (ifd (fun e1 => ?_) fun _ => ⟨rfl, rfl⟩)
    refine w_eql (ifd (fun e2 => ?_) fun _ => ⟨rfl, rfl⟩)
    refine a_lss (ifd (fun e3 => ?_) fun _ => ⟨rfl, rfl⟩)
    refine x_lenS hu (x_lenS hv (a_gtr (ifd_neg ?_ ⟨rfl, rfl⟩)))
    obtain ⟨a1, a2, a3⟩ := varR_ok (n := a) (by omega)
    obtain ⟨b1, b2, b3⟩ := varR_ok (n := b) (by omega)
    rw [a3, b3]
    have := vrF_mono (k := 8) (a := a.toNat) (b := b.toNat) (by omega)
    unfold vr
    omega
  rintro vs W' _ ⟨rfl, rfl⟩
  refine app7 ?_
  have h0 : St w0 G0 l W' := h.to
  have tail2 : ∀ {W1 : World} {X Y X' Y' : Operand} {tt : TypeId}, St w0 G0 l W1 → ¬ ((digR a width).2 = true ∧ (digR b width).2 = true) →
      IfB (.bool (digR a width).2) (IfB (.bool (digR b width).2) (RR (.bool true) W1) (RunW Tryd.prog (bin .eql tt X Y (strV (digR b width).1) (.string ⟨#[]⟩)) W1 fun t => RR t W1))
        (RunW Tryd.prog (bin .eql tt X' Y' (strV (digR a width).1) (.string ⟨#[]⟩)) W1 fun t68 => IfB t68 (IfB (.bool (digR b width).2) (RR (.bool true) W1) (RunW Tryd.prog (bin .eql tt X Y (strV (digR b width).1) (.string ⟨#[]⟩)) W1 fun t => RR t W1)) (RR (.bool false) W1)) := by
    intro W1 X Y X' Y' tt h1 hno
    have second : IfB (.bool (digR b width).2) (RR (.bool true) W1) (RunW Tryd.prog (bin .eql tt X Y (strV (digR b width).1) (.string ⟨#[]⟩)) W1 fun t => RR t W1) :=
      ifb (fun _ => k _ h1) fun e => by
        rw [digR_no e]
        exact w_eqlL (b := []) (k _ h1)
    refine ifb (fun _ => second) fun e => ?_
    rw [digR_no e]
    exact w_eqlL (b := []) (ifd_pos rfl second)
  refine a_not (ifnb (fun e1 => first1_spec hT h0 fun W h => ift (tail2 h (by rw [e1]; simp))) fun e1 => ?_)
  refine a_not (ifnb (fun e2 => first1_spec hT h0 fun W h => ift (tail2 h (by rw [e2]; simp))) fun e2 => ?_)
  refine first1_spec hT h0 fun Wz hz => ift ?_
  obtain ⟨m, q, rfl, rfl, hq, hm, ex⟩ := digR_yes e1
  obtain ⟨m2, q2, rfl, hqq, hq2, hm2, ey⟩ := digR_yes e2
  obtain rfl : q = q2 := by omega
  rw [ex, ey]
  refine x_len (w_eql (ifd_pos (by rw [dgs_len]) ?_))
  refine x_len (w_eql (ifd_pos (by rw [dgs_len]) ?_))
  obtain ⟨d1, d2⟩ := dgs_less m m2 q
  rw [Nat.mod_eq_of_lt hm, Nat.mod_eq_of_lt hm2] at d1 d2
  refine a_lss (x_lssL ?_)
  rw [d1]
  refine x_eqb ?_
  have g1 : (decide ((m : Int) < (m2 : Int)) == decide (m < m2)) = true := by
    have : decide ((m : Int) < (m2 : Int)) = decide (m < m2) := decide_eq_decide.2 (by omega)
    rw [this]; exact beq_self_eq_true _
  rw [g1]
  refine ift ?_
  refine w_eql (w_eqlL (x_eqb ?_))
  have g2 : (decide ((m : Int) = (m2 : Int)) == decide (dgs m q = dgs m2 q)) = true := by
    have : decide ((m : Int) = (m2 : Int)) = decide (dgs m q = dgs m2 q) := decide_eq_decide.2 (by rw [d2]; omega)
    rw [this]; exact beq_self_eq_true _
  rw [g2]
  exact k Wz hz
theorem getR_err (l : Txt) (a w : Int) : (getR l a w).2 ≠ 0 → (getR l a w).1 = 0 ∧ ((getR l a w).2 = 1 ∧ (w < 1 ∨ 6 < w ∨ a < 0 ∨ l.length < a) ∨ (getR l a w).2 = 2 ∧ ¬ (w < 1 ∨ 6 < w ∨ a < 0 ∨ l.length < a)) := by
  unfold getR
  intro h
  split at h
  · rename_i hc; rw [if_pos hc]; exact ⟨rfl, .inl ⟨rfl, hc⟩⟩
  · rename_i hc
    rw [if_neg hc]
    split at h
    · rename_i hd; rw [if_pos hd]; exact ⟨rfl, .inr ⟨rfl, hc⟩⟩
    · exact absurd rfl h
theorem getR_ok {l : Txt} {a w : Int} (h : (getR l a w).2 = 0) : ∃ (i m : Nat), a = i ∧ w = m ∧ 1 ≤ m ∧ m ≤ 6 ∧ i + m ≤ l.length ∧ (getR l a w).1 = getB ((l.drop i).take m) := by
  unfold getR at h ⊢
  split at h
  · cases h
  · rename_i hc
    rw [if_neg hc]
    split at h
    · cases h
    · rename_i hd
      rw [if_neg hd]
      exact ⟨a.toNat, w.toNat, by omega, by omega, by omega, by omega, by omega, rfl⟩
/-- hbllaw1.NumGets -/
theorem gets_spec {a width : Int} {l1 : Txt} (hT : PowTab w0) (h : St w0 G0 l W) (hv : By w0 v l1) (ha : a ≤ 9223372036854775807) (k : ∀ W', St w0 G0 l W' → RR (.bool true) W') :
    CallF Tryd.prog 4 #[v, .int .i64 a, .int .i64 width] W RR := by
  refine sh4_calls ?_
  unfold sh4
  refine first1_spec hT h fun W h => ?_
  refine a_not (iff' ?_)
  have hW := hv.below h.low
  refine x_lenS hW (a_gtr (ifd (fun _ => first1_spec hT h k) fun c1 => ?_))
  refine get_spec hW (by omega) ha ?_
  refine a_ext0 (a_ext1 ?_)
  refine w_neq (ifd (fun e => ?_) fun e => ?_)
  · obtain ⟨e1, e2⟩ := getR_err l1 a width (by omega)
    refine first1_spec hT h fun W h => ift ?_
    have hW := hv.below h.low
    rw [e1]
    refine w_eql (ifd_pos rfl ?_)
    have fin : ∀ b : Bool, (b = true ↔ (width < 1 ∨ 6 < width ∨ a < 0 ∨ l1.length < a)) → (decide (((getR l1 a width).2 : Int) = 1) == b) = true := fun b hb => by
      rcases e2 with ⟨q1, q2⟩ | ⟨q1, q2⟩
      · rw [q1, hb.2 q2]; rfl
      · have : b = false := by cases b; rfl; exact absurd (hb.1 rfl) q2
        rw [q1, this]; rfl
    have out : ∀ b : Bool, (b = true ↔ (width < 1 ∨ 6 < width ∨ a < 0 ∨ l1.length < a)) → ∀ {X Y : Operand}, RunW Tryd.prog (bin .eql 4 X Y (.bool (decide (((getR l1 a width).2 : Int) = 1))) (.bool b)) W fun t => RR t W := fun b hb X Y => x_eqb (by rw [fin b hb]; exact k W h)
    refine w_eql ?_
    refine a_lss (ifd (fun g => out true (by simp [g])) fun g1 => ?_)
    refine a_gtr (ifd (fun g => out true (by simp; omega)) fun g2 => ?_)
    refine a_lss (ifd (fun g => out true (by simp; omega)) fun g3 => ?_)
    refine x_lenS hW (a_gtr ?_)
    exact out _ (by rw [decide_eq_true_iff]; omega)
  · obtain ⟨i, m, rfl, rfl, m1, m2, m3, m4⟩ := getR_ok (l := l1) (a := a) (w := width) (by omega)
    refine a_lss (ifd_neg (by omega) (a_gtr (ifd_neg (by omega) (a_lss (ifd_neg (by omega) ?_)))))
    refine x_lenS hW (a_sub64 (by omega) (by omega) (a_gtr (ifd_neg (by omega) ?_)))
    rw [m4]
    have hrl : ((l1.drop i).take m).length = m := by rw [List.length_take, List.length_drop]; omega
    have hlt := getB_lt ((l1.drop i).take m)
    rw [hrl] at hlt
    have hp : 256 ^ m ≤ 256 ^ 6 := Nat.pow_le_pow_right (by decide) m2
    have hp6 : (256 : Nat) ^ 6 = 281474976710656 := by decide
    have e256 : (2 : Nat) ^ (8 * m) = 256 ^ m := by rw [Nat.pow_mul]
    refine uput_spec (n := (getB ((l1.drop i).take m) : Int)) (width := (m : Int)) h (by omega) fun u W ou h => ?_
    have hW := hv.below h.low
    have ep : putR (getB ((l1.drop i).take m) : Int) (m : Int) = ((l1.drop i).take m, 0) := by
      unfold putR
      rw [Int.toNat_natCast, Int.toNat_natCast, e256, if_neg (by omega), be_get hrl]
    rw [ep] at h ⊢
    refine a_ext0 (a_ext1 ?_)
    refine first1_spec hT h fun W h => ift ?_
    have hW := hv.below h.low
    refine w_eql (ifd_pos rfl ?_)
    refine a_add64 (by omega) (by omega) ?_
    rw [show ((i : Int) + (m : Int)) = ((i + m : Nat) : Int) by push_cast; rfl]
    refine a_part elB hW (by omega) (by omega) fun u2 hu2 => ?_
    rw [show i + m - i = m by omega] at hu2
    refine bytes_spec (h.osl (v := u)) hu2 ?_
    refine ifd_pos rfl ?_
    refine a_mul64 (by omega) (by omega) ?_
    rw [show ((8 : Int) * (m : Int)) = ((8 * m : Nat) : Int) by push_cast; rfl]
    refine v_convN (k := .u64) (n := 8 * m) Tryd.underlying3 Tryd.underlying34 (by simp only [IntKind.max, IntKind.bits, IntKind.signed]; simp; omega) ?_
    refine a_shrN (by simp [IntKind.bits]; omega) ?_
    rw [e256, Nat.div_eq_of_lt hlt]
    refine w_eql ?_
    exact k W h.to
end
end Go.Proofs.YtknbnfpdcbpoeaaDoor
