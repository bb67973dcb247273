/-
  DATES: a reader that takes a text from the front: what each method answers.
-/
import Derived.Test.YtififikdlcohpaaDoorDtA
namespace Go.Proofs.YtififikdlcohpaaDoor
open Go Go.Ez Go.RowKit
set_option linter.unusedSimpArgs false
set_option linter.unusedVariables false
/-- a reader: the text left, is it none? -/
abbrev RdO (x : Txt × Bool) : Nat → As := Ob (.cells [strV x.1, .bool x.2].toArray 76 (0, 0))
section
variable {w0 W W' : World} {G : Nat → Prop} {l R R1 : List As} {RR : Value → World → Prop} {x : Txt × Bool} {b : Nat} {p s : Txt}
theorem hasPre_spec (k : RR (.bool (isPreD p s)) W) : CallF Tryd.prog 100 #[strV s, strV p] W RR := by
  refine sh100_calls ?_
  unfold sh100
  refine x_len (x_len (a_geq (ifd (fun hc => ?_) fun hc => ?_)))
  · refine x_len (x_cutH (by omega) (w_eqlL ?_))
    exact k
  · have : isPreD p s = false := by
      unfold isPreD
      refine decide_eq_false fun e => hc ?_
      have := congrArg List.length e
      rw [List.length_take] at this
      omega
    rw [this] at k
    exact k
theorem isPreD_len (h : isPreD p s = true) : p.length ≤ s.length := by
  have := congrArg List.length (of_decide_eq_true h)
  rw [List.length_take] at this
  omega
theorem cutPre_spec (k : RR (.tuple #[strV (eatS s p), .bool (isPreD p s)]) W) : CallF Tryd.prog 86 #[strV s, strV p] W RR := by
  refine sh86_calls ?_
  unfold sh86
  refine sh94_calls ?_
  unfold sh94
  refine hasPre_spec (a_not (ifnb (fun hp => ?_) fun hp => ?_))
  · rw [show eatS s p = s from eatS_no hp, hp] at k
    exact a_ext0 (a_ext1 k)
  · rw [show eatS s p = s.drop p.length by unfold eatS; rw [hp]; rfl, hp] at k
    refine x_len (x_cutL (isPreD_len hp) ?_)
    exact a_ext0 (a_ext1 k)
/-- eats -/
theorem eats_spec [i : Has l b (RdO x) R] (h : St w0 G l W) (k : ∀ W', St w0 G (Ky b (RdO (eatS x.1 p, x.2)) :: R) W' → RR (.bool (isPreD p x.1)) W') : CallF Tryd.prog 59 #[.pointer (some ⟨b, 0, none⟩), strV p] W RR := by
  refine sh59_calls ?_
  unfold sh59
  replace h := h.find (k := b) (X := RdO x)
  refine a_nil (a_fld0 (h.load ?_))
  refine cutPre_spec (a_ext0 (a_ext1 ?_))
  refine jni (fun vs W' => vs = [.bool (isPreD p x.1)] ∧ St w0 G (Ky b (RdO (eatS x.1 p, x.2)) :: R) W') (by rintro vs W' _ ⟨rfl, h⟩; exact app1 (k W' h)) ?_
  refine ifb (fun hp => ?_) fun hp => ?_
  · refine a_nil (a_fld0 (h.store fun W' h => ?_))
    exact ⟨by rw [hp], h⟩
  · refine ⟨by rw [hp], ?_⟩
    rw [eatS_no hp]; exact h
/-- wants -/
theorem wants_spec [i : Has l b (RdO x) R] (h : St w0 G l W) (k : ∀ W', St w0 G (Ky b (RdO (wantsP p x)) :: R) W' → RR (.tuple #[]) W') : CallF Tryd.prog 55 #[.pointer (some ⟨b, 0, none⟩), strV p] W RR := by
  refine sh55_calls ?_
  unfold sh55
  refine eats_spec (x := x) (p := p) h fun W1 h => ?_
  refine a_not (ifnb (fun hp => ?_) fun hp => ?_)
  · refine a_nil (a_fld0 (h.store fun W' h => k W' ?_))
    unfold wantsP; rw [hp, Bool.not_false, Bool.or_true]
    exact h
  · refine k W1 ?_
    unfold wantsP; rw [hp, Bool.not_true, Bool.or_false]; exact h
/-- number -/
theorem number_spec {least most : Nat} [i : Has l b (RdO x) R] (h : St w0 G l W) (hm : most ≤ 9) (hl : least ≤ 9) (k : ∀ W', St w0 G (Ky b (RdO (numberP least most x).2) :: R) W' → RR (.int .i64 (numberP least most x).1) W') :
    CallF Tryd.prog 56 #[.pointer (some ⟨b, 0, none⟩), nV .i64 least, nV .i64 most] W RR := by
  refine sh56_calls ?_
  unfold sh56
  replace h := h.find (k := b) (X := RdO x)
  have hdl := digs_len (most := most) (s := x.1)
  refine jni (fun vs W' => vs = [.pointer (some ⟨b, 0, none⟩), nV .i64 least, .int .i64 (numV (digs most x.1) 0), nV .i64 (digs most x.1).length] ∧ St w0 G (Ky b (RdO x) :: R) W') ?_ ?_
  · rintro vs W1 _ ⟨rfl, h⟩
    refine app4 ?_
    refine jni (fun vs W' => vs = [.pointer (some ⟨b, 0, none⟩), .int .i64 (numV (digs most x.1) 0), nV .i64 (digs most x.1).length] ∧ St w0 G (Ky b (RdO (x.1, x.2 || decide ((digs most x.1).length < least))) :: R) W') ?_ ?_
    · rintro vs W2 _ ⟨rfl, h⟩
      refine app3 ?_
      refine a_nil (a_fld0 (h.load (x_cutL (show (digs most x.1).length ≤ x.1.length from hdl.2) ?_)))
      refine a_nil (a_fld0 (h.store fun W' h => ?_))
      exact k W' h
    refine a_lss (ifd (fun hc => ?_) fun hc => ?_)
    · refine a_nil (a_fld0 (h.store fun W' h => ⟨rfl, ?_⟩))
      rw [decide_eq_true (by omega), Bool.or_true]; exact h
    · refine ⟨rfl, ?_⟩
      rw [decide_eq_false (by omega), Bool.or_false]; exact h
  · refine lpx (α := Nat) (fun i => [.int .i64 (numV (x.1.take i) 0), nV .i64 i]) (fun i W' => i ≤ most ∧ i ≤ x.1.length ∧ (∀ j y, j < i → x.1[j]? = some y → isDig y = true) ∧ St w0 G (Ky b (RdO x) :: R) W') (fun i => most - i) 0 (fun _ => rfl) rfl ⟨Nat.zero_le _, Nat.zero_le _, fun j y h => absurd h (Nat.not_lt_zero _), h⟩ ?_
    clear h
    rintro next i W1 hnext ⟨hi, hil, hall, h⟩
    refine app2 ?_
    have stop : (i < most → ∀ y, x.1[i]? = some y → isDig y = false) → ([.pointer (some ⟨b, 0, none⟩), nV .i64 least, .int .i64 (numV (x.1.take i) 0), nV .i64 i] : List Value) = [.pointer (some ⟨b, 0, none⟩), nV .i64 least, .int .i64 (numV (digs most x.1) 0), nV .i64 (digs most x.1).length] ∧ St w0 G (Ky b (RdO x) :: R) W1 := fun hs => by
      rw [digs_stop hi hil hall hs, List.length_take, Nat.min_eq_left hil]
      exact ⟨rfl, h⟩
    refine a_lss (ifd (fun hc => ?_) fun hc => stop fun hx => by omega)
    refine a_nil (a_fld0 (h.load (x_len (a_lss (ifd (fun hc2 => ?_) fun hc2 => stop fun _ y hy => ?_)))))
    · obtain ⟨c, hcv⟩ : ∃ c, x.1[i]? = some c := ⟨_, List.getElem?_eq_getElem (by omega)⟩
      have hc8 := c.toNat_lt
      refine a_nil (a_fld0 (h.load (x_index hcv ?_)))
      have nd : isDig c = false → i < most → ∀ y, x.1[i]? = some y → isDig y = false := fun hd _ y hy => by rw [hcv] at hy; cases hy; exact hd
      refine a_geq (ifd (fun hge => ?_) fun hge => stop (nd (by unfold isDig; rw [decide_eq_false (by omega)]; rfl)))
      refine a_nil (a_fld0 (h.load (x_index hcv ?_)))
      refine a_leq (ifd (fun hle => ?_) fun hle => stop (nd (by unfold isDig; rw [decide_eq_false (show ¬ c.toNat ≤ 57 by omega), Bool.and_false])))
      have hd : isDig c = true := by unfold isDig; rw [decide_eq_true (by omega), decide_eq_true (by omega)]; rfl
      obtain ⟨n1, n2⟩ := numV_rng (x.1.take i) 0 (Int.le_refl _) fun d hdm => by
        obtain ⟨j, hj⟩ := List.mem_iff_getElem?.1 hdm
        rw [List.getElem?_take] at hj
        split at hj
        · rename_i hji; exact hall j d hji hj
        · cases hj
      have n3 : (10 ^ (x.1.take i).length : Nat) ≤ 1000000000 := by
        have : (10 : Nat) ^ (x.1.take i).length ≤ 10 ^ 9 := Nat.pow_le_pow_right (by decide) (by rw [List.length_take]; omega)
        exact this
      refine a_mul64 (by omega) (by omega) ?_
      refine a_nil (a_fld0 (h.load (x_index hcv ?_)))
      refine a_sub ?_
      rw [show IntKind.u8.wrap ((c.toNat : Int) - 48) = ((c.toNat - 48 : Nat) : Int) by
        rw [show ((c.toNat : Int) - 48) = ((c.toNat - 48 : Nat) : Int) by omega]
        exact wrap_nat (k := .u8) (by simp only [IntKind.max, IntKind.bits, IntKind.signed]; simp; omega)]
      refine v_convN Tryd.underlying5 Tryd.underlying3 (by simp only [IntKind.max, IntKind.bits, IntKind.signed]; simp; omega) ?_
      refine a_add64 (by omega) (by omega) (a_add64 (by omega) (by omega) ⟨rfl, rfl, rfl, ?_⟩)
      have e : numV (x.1.take i) 0 * 10 + ((c.toNat - 48 : Nat) : Int) = numV (x.1.take (i + 1)) 0 := by
        rw [List.take_add_one, hcv]
        exact (numV_append _ _ _).symm
      rw [e, show ((i : Int) + 1) = ((i + 1 : Nat) : Int) by push_cast; rfl]
      refine hnext (i + 1) W1 (by omega) ⟨by omega, by omega, fun j y hj hy => ?_, h⟩
      by_cases hji : j < i
      · exact hall j y hji hy
      · obtain rfl : j = i := by omega
        rw [hcv] at hy; cases hy; exact hd
    · rw [List.getElem?_eq_none (by omega)] at hy; cases hy
/-- slices.IndexFunc of a reader's eats -/
theorem idxf_spec {ls : List Txt} {v : Value} [i : Has l b (RdO x) R1] [j : Has R1 v (Ow 9 1 ls.length (ls.map strV)) R] (h : St w0 G l W) (hl : ls.length ≤ 1000) (k : ∀ W', St w0 G (Ky b (RdO ((oneP ls x.1).2, x.2)) :: R) W' → RR (.int .i64 (((oneP ls x.1).1 : Int) - 1)) W') :
    CallF Tryd.prog 85 #[v, .func (.func 59) #[.pointer (some ⟨b, 0, none⟩)] #[]] W RR := by
  refine sh85_calls ?_
  unfold sh85
  have h0 : St w0 G (Ky b (RdO x) :: Ky v (Ow 9 1 ls.length (ls.map strV)) :: R) W := by
    obtain ⟨F, hF, hG⟩ := h.own
    exact { h with own := ⟨F, sepL_mono j.to (i.to F W hF), hG⟩ }
  clear h
  refine x_lenS (h0.osl (v := v)) ?_
  refine lpx (α := Nat) (fun i => [nV .i64 i]) (fun i W' => i ≤ ls.length ∧ (∀ j q, j < i → ls[j]? = some q → isPreD q x.1 = false) ∧ St w0 G (Ky b (RdO x) :: Ky v (Ow 9 1 ls.length (ls.map strV)) :: R) W') (fun i => ls.length - i) 0 (fun _ => rfl) rfl ⟨Nat.zero_le _, fun j y h => absurd h (Nat.not_lt_zero _), h0⟩ ?_
  clear h0
  rintro next i W1 hnext ⟨hi, hno, h⟩
  refine app1 ?_
  refine a_lss (ifd (fun hc => ?_) fun hc => ?_)
  · obtain ⟨p, hp⟩ : ∃ p, ls[i]? = some p := ⟨_, List.getElem?_eq_getElem (by omega)⟩
    refine x_at (h.osl (v := v)) (u := strV p) (by rw [List.getElem?_map, hp]; rfl) ?_
    refine callV_bd (hent _ rfl) ?_
    refine eats_spec (x := x) (p := p) h fun W2 h => ?_
    refine ifb (fun hh => ?_) fun hh => ?_
    · have e := oneP_at hno hp hh
      rw [e] at k
      have := k W2 (by rw [show eatS x.1 p = x.1.drop p.length by unfold eatS; rw [hh]; rfl] at h; exact h.to)
      rw [show (((i + 1 : Nat) : Int) - 1) = (i : Int) by omega] at this
      exact this
    · rw [eatS_no hh] at h
      refine a_add64 (by omega) (by omega) ⟨rfl, rfl, rfl, ?_⟩
      rw [show ((i : Int) + 1) = ((i + 1 : Nat) : Int) by push_cast; rfl]
      refine hnext (i + 1) W2 (by omega) ⟨by omega, fun j q hj hq => ?_, h⟩
      by_cases hji : j < i
      · exact hno j q hji hq
      · obtain rfl : j = i := by omega
        rw [hp] at hq; cases hq; exact hh
  · have e := oneP_no (l := ls) (s := x.1) fun j q hq => hno j q (by have := (List.getElem?_eq_some_iff.1 hq).1; omega) hq
    rw [e] at k
    exact k W1 h.to
end
end Go.Proofs.YtififikdlcohpaaDoor
