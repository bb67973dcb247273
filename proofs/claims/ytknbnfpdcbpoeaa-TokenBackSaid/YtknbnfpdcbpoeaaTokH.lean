/-
  TOKENS: the document's tokens: may it be one, its text: what each function answers.
-/
import Derived.Test.YtknbnfpdcbpoeaaTokG
namespace Go.Proofs.Ytknbnfpdcbpoeaa
open Go Go.Ez Go.RowKit Go.Lib
set_option linter.unusedSimpArgs false
set_option linter.unusedVariables false

/-- (hblref20.Token).May -/
theorem rmay_spec {u k : List UInt8} {f t : Int} {w : World} {R : Value → World → Prop} (hu : u.length ≤ 9223372036854775807) (hk : k.length ≤ 9223372036854775807) (h : ∀ w', Below w.heap.size w w' → R (.bool (decide (mayT u f t k))) w') : CallF Try.prog 26 #[tkV u f t k] w R := by
  refine sh26_calls ?_
  unfold sh26
  refine v_boxRec fun w1 z1 r1 m1 => ?_
  have h := h w1 m1
  have F0 : ∀ {K : Value → Prop}, K (strV u) → RunA Try.prog (Instr.fieldAt 46 (.pointer (some ⟨w.heap.size, 0, none⟩)) 0) fun p => RunW Try.prog (Instr.loadAt 9 p) w1 K := fun hK => a_field Try.underlying46 rfl Try.sizeOf9 (by decide) (w_recF Try.isAgg9 r1 rfl hK)
  have F1 : ∀ {K : Value → Prop}, K (.int .i64 f) → RunA Try.prog (Instr.fieldAt 46 (.pointer (some ⟨w.heap.size, 0, none⟩)) 1) fun p => RunW Try.prog (Instr.loadAt 3 p) w1 K := fun hK => a_field Try.underlying46 rfl Try.sizeOf3 (by decide) (w_recF Try.isAgg3 r1 rfl hK)
  have F2 : ∀ {K : Value → Prop}, K (.int .i64 t) → RunA Try.prog (Instr.fieldAt 46 (.pointer (some ⟨w.heap.size, 0, none⟩)) 2) fun p => RunW Try.prog (Instr.loadAt 3 p) w1 K := fun hK => a_field Try.underlying46 rfl Try.sizeOf3 (by decide) (w_recF Try.isAgg3 r1 rfl hK)
  have F3 : ∀ {K : Value → Prop}, K (strV k) → RunA Try.prog (Instr.fieldAt 46 (.pointer (some ⟨w.heap.size, 0, none⟩)) 3) fun p => RunW Try.prog (Instr.loadAt 9 p) w1 K := fun hK => a_field Try.underlying46 rfl Try.sizeOf9 (by decide) (w_recF Try.isAgg9 r1 rfl hK)
  refine F0 ?_
  refine rname_spec hu ?_
  refine a_not (ifnd (fun hc => r_false (fun hx => hc hx.1) h) fun hname => ?_)
  refine F1 (a_lss (ifd (fun hc => r_false (fun hx => by have := hx.2.1; omega) h) fun hc1 => ?_))
  refine F1 (a_gtr (ifd (fun hc => r_false (fun hx => by have := hx.2.2.1; omega) h) fun hc2 => ?_))
  refine F2 (w_eql (ifd (fun hc => ?_) fun hc3 => ?_))
  · refine F3 (w_eqlL (b := []) (r_dec ?_ h))
    unfold mayT
    rw [if_pos hc]
    exact ⟨fun hx => ⟨hname, by omega, by omega, hx⟩, fun hx => hx.2.2.2⟩
  · have hm : mayT u f t k ↔ max f 1 ≤ t ∧ t ≤ 1099511627776 ∧ k ≠ [] ∧ k.length ≤ 100 := by
      unfold mayT
      rw [if_neg hc3]
      exact ⟨fun hx => hx.2.2.2, fun hx => ⟨hname, by omega, by omega, hx⟩⟩
    replace h := r_dec (R := R) (w := w1) hm.symm h
    refine F2 (a_geq (ifd (fun hc4 => ?_) fun hc4 => r_false (fun hx => by have := hx.1; omega) h))
    refine F2 (F1 (a_geq (ifd (fun hc4 => ?_) fun hc4 => r_false (fun hx => by have := hx.1; omega) h)))
    refine F2 (a_leq (ifd (fun hc5 => ?_) fun hc5 => r_false (fun hx => by have := hx.2.1; omega) h))
    refine F3 (w_lenL Try.underlying9 ?_)
    refine a_geq (ifd (fun hc6 => ?_) fun hc6 => r_false (fun hx => hc6 (by have := List.length_pos_iff.2 hx.2.2.1; omega)) h)
    refine F3 (w_lenL Try.underlying9 ?_)
    refine a_leq (r_dec ?_ h)
    exact ⟨fun hx => ⟨by omega, by omega, List.length_pos_iff.1 (by omega), by omega⟩, fun hx => by have := hx.2.2.2; omega⟩

/-- (hblref20.Token).Print -/
theorem rprint_all {u k : List UInt8} {f t : Int} {w : World} {R : Value → World → Prop} (hu : u.length ≤ 9223372036854775807) (hk : k.length ≤ 9223372036854775807)
    (h : ∀ w', Below w.heap.size w w' → R (.tuple #[strV (prS u f t k), .int .i64 (prE u f t k)]) w') :
    CallF Try.prog 23 #[tkV u f t k] w R := by
  refine sh23_calls ?_
  unfold sh23
  refine v_boxRec fun w1 z1 r1 m1 => ?_
  refine w_rec (cs := tkC u f t k) Try.isAgg46 Try.sizeOf46 r1 ?_
  refine rmay_spec hu hk fun w2 m2 => ?_
  have c2 := Below.next m1 m2
  refine a_not (ifnd (fun hc => ?_) fun hm => ?_)
  · have := h w2 c2
    unfold prS prE at this
    rw [if_neg hc, if_neg hc] at this
    exact this
  obtain ⟨f1, f2, t1, t2, ul, kl⟩ := mayT_nat hm
  unfold prS prE at h
  rw [if_pos hm, if_pos hm] at h
  obtain ⟨f, rfl⟩ := Int.eq_ofNat_of_zero_le f1
  obtain ⟨t, rfl⟩ := Int.eq_ofNat_of_zero_le t1
  simp only [Int.toNat_natCast] at h
  have r2 := r1.below m2
  have hlt := r2.lt
  have F : ∀ W, Below w2.heap.size w2 W → Rec W w.heap.size 46 (tkC u f t k) := fun W hW => (hW.block _ hlt).trans r2
  refine ⟨fun W => Below w2.heap.size w2 W, (Below.refl _ _).drew, ?_⟩
  refine a_field Try.underlying46 rfl Try.sizeOf3 (by decide) (s_recF (j := 0 + 1) Try.isAgg3 F rfl ?_)
  refine a_field Try.underlying46 rfl Try.sizeOf3 (by decide) (s_recF (j := 0 + 2) Try.isAgg3 F rfl ?_)
  refine a_field Try.underlying46 rfl Try.sizeOf9 (by decide) (s_recF (j := 0 + 0) Try.isAgg9 F rfl ?_)
  refine s_lenL Try.underlying9 ?_
  refine a_field Try.underlying46 rfl Try.sizeOf9 (by decide) (s_recF (j := 0 + 0) Try.isAgg9 F rfl ?_)
  have d0 : Below w2.heap.size w2 w2.drew := (Below.refl _ _).drew
  have hf8 := varB_len8 (n := f) (by omega)
  have ht8 := varB_len8 (n := t) (by omega)
  have hu8 := varB_len8 (n := u.length) (by omega)
  have hk8 := varB_len8 (n := k.length) (by omega)
  refine rnum_spec (by omega) fun v3 w3 o3 b3 => ?_
  have d3 := d0.trans b3
  refine ⟨d3, ?_⟩
  refine rnum_spec (by omega) fun v4 w4 o4 b4 => ?_
  have d4 := d3.trans (b4.mono d3.size)
  refine ⟨d4, ?_⟩
  have o3' := ownsRow_ext o3 b4
  refine v_app elB o3' (Sl.of_own o4) (bytesV_one _) (by unfold maxLen; omega) (by omega) d4.size fun v5 w5 o5 g5 _ => ?_
  have d5 := d4.grown g5 d4.size (own_base o3')
  rw [← bytesV_append, ← List.length_append] at o5
  refine ⟨d5, ?_⟩
  refine rnum_spec (by omega) fun v6 w6 o6 b6 => ?_
  have d6 := d5.trans (b6.mono d5.size)
  refine ⟨d6, ?_⟩
  have o5' := ownsRow_ext o5 b6
  refine v_app elB o5' (Sl.of_own o6) (bytesV_one _) (by unfold maxLen; simp only [List.length_append]; omega) (by simp only [List.length_append]; omega) d6.size fun v7 w7 o7 g7 _ => ?_
  have d7 := d6.grown g7 d6.size (own_base o5')
  rw [← bytesV_append, ← List.length_append] at o7
  refine ⟨d7, ?_⟩
  refine v_appS elB Try.underlying9 o7 (by unfold maxLen; simp only [List.length_append]; omega) (by simp only [List.length_append]; omega) d7.size fun v8 w8 o8 g8 => ?_
  have d8 := d7.grown g8 d7.size (own_base o7)
  rw [← bytesV_append, ← List.length_append] at o8
  have d8d : Below w2.heap.size w2 w8.drew := d8.drew
  refine ⟨fun W => Below w2.heap.size w2 W, d8d, ?_⟩
  refine a_field Try.underlying46 rfl Try.sizeOf9 (by decide) (s_recF (j := 0 + 3) Try.isAgg9 F rfl ?_)
  refine s_lenL Try.underlying9 ?_
  refine a_field Try.underlying46 rfl Try.sizeOf9 (by decide) (s_recF (j := 0 + 3) Try.isAgg9 F rfl ?_)
  refine rnum_spec (by omega) fun v9 w9 o9 b9 => ?_
  have d9 := d8d.trans (b9.mono d8d.size)
  refine ⟨d9, ?_⟩
  have o8' := ownsRow_ext o8.drew b9
  refine v_app elB o8' (Sl.of_own o9) (bytesV_one _) (by unfold maxLen; simp only [List.length_append]; omega) (by simp only [List.length_append]; omega) d9.size fun v10 w10 o10 g10 _ => ?_
  have d10 := d9.grown g10 d9.size (own_base o8')
  rw [← bytesV_append, ← List.length_append] at o10
  refine ⟨d10, ?_⟩
  refine v_appS elB Try.underlying9 o10 (by unfold maxLen; simp only [List.length_append]; omega) (by simp only [List.length_append]; omega) d10.size fun v11 w11 o11 g11 => ?_
  have d11 := d10.grown g11 d10.size (own_base o10)
  rw [← bytesV_append, ← List.length_append] at o11
  have eb : varB f ++ varB t ++ varB u.length ++ u ++ varB k.length ++ k = tokB u f t k := by simp only [tokB, List.append_assoc]
  rw [eb] at o11
  have hbl : (tokB u f t k).length ≤ 200 := by
    rw [← eb]
    simp only [List.length_append]
    omega
  refine crc1_spec (Sl.of_own o11) (by omega) ?_
  have hc32 := crc_lt (tokB u f t k)
  refine v_convN Try.underlying57 Try.underlying3 (by simp only [IntKind.max, IntKind.bits, IntKind.signed]; simp; omega) ?_
  refine put1_spec (by omega) (fun hn => ?_) fun _ _ _ _ s w12 s1 s2 => ?_
  · simp at hn
    omega
  simp only [Int.toNat_natCast, show Int.toNat 4 = 4 from rfl] at s1
  refine a_ext0 (a_ext1 ?_)
  have o12 := ownsRow_ext o11 s2
  have d12 := d11.trans (s2.mono d11.size)
  refine v_app elB o12 (Sl.of_own s1) (bytesV_one _) (by unfold maxLen; omega) (by omega) d12.size fun x w13 x1 x2 _ => ?_
  have d13 := d12.grown x2 d12.size (own_base o12)
  have e4 : (tokB u f t k).length + 4 = (tokB u f t k ++ be (crc (tokB u f t k)) 4).length := by rw [List.length_append, be_length]
  rw [← bytesV_append, e4] at x1
  refine hex1_spec (Sl.of_own x1) (by rw [← e4]; omega) fun w14 m14 => ?_
  exact h w14 (Below.next (Below.next c2 d13) m14)

end Go.Proofs.Ytknbnfpdcbpoeaa
