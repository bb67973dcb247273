/-
  FRAMES: numbers read, check sums: what each function answers.
-/
import Derived.Test.YtknbnfpdcbpoeaaDoorNuA
namespace Go.Proofs.YtknbnfpdcbpoeaaDoor
open Go Go.Ez Go.RowKit
set_option linter.unusedSimpArgs false
set_option linter.unusedVariables false

/-- num.Get -/
theorem get_spec {v : Value} {l : List UInt8} {w : World} {a width : Int} {R : Value → World → Prop} (hv : By w v l) (hl : l.length ≤ 140737488351232) (ha : a ≤ 9223372036854775807)
    (h : R (.tuple #[nV .i64 (getR l a width).1, nV .i64 (getR l a width).2]) w) : CallF Tryd.prog 12 #[v, .int .i64 a, .int .i64 width] w R := by
  refine sh12_calls ?_
  unfold sh12
  unfold getR at h
  refine a_lss (ifd (fun hc => by rw [if_pos (.inl hc)] at h; exact h) fun hc1 => ?_)
  refine a_gtr (ifd (fun hc => by rw [if_pos (.inr (.inl hc))] at h; exact h) fun hc2 => ?_)
  refine a_lss (ifd (fun hc => by rw [if_pos (.inr (.inr (.inl hc)))] at h; exact h) fun hc3 => ?_)
  refine w_lenS Tryd.underlying25 hv ?_
  refine a_gtr (ifd (fun hc => by rw [if_pos (.inr (.inr (.inr hc)))] at h; exact h) fun hc4 => ?_)
  rw [if_neg (by omega)] at h
  refine w_lenS Tryd.underlying25 hv ?_
  refine a_sub64 (by omega) (by omega) ?_
  refine a_lss (ifd (fun hc => by rw [if_pos hc] at h; exact h) fun hc5 => ?_)
  rw [if_neg hc5] at h
  obtain ⟨a, rfl⟩ := Int.eq_ofNat_of_zero_le (Int.not_lt.1 hc3)
  obtain ⟨m, rfl⟩ := Int.eq_ofNat_of_zero_le (show 0 ≤ width by omega)
  simp only [Int.toNat_natCast] at h
  refine a_add64 (by omega) (by omega) ?_
  have e1 : ((a : Int) + (m : Int)) = ((a + m : Nat) : Int) := by push_cast; rfl
  rw [e1]
  refine a_part elB hv (by omega) (by omega) fun u hu => ?_
  have e2 : a + m - a = m := by omega
  rw [e2] at hu
  generalize hr : (l.drop a).take m = r at hu h
  have hrl : r.length = m := by rw [← hr, List.length_take, List.length_drop]; omega
  refine w_lenS Tryd.underlying25 hu ?_
  refine lpx (α := Nat × Nat) (fun x => [nV .i64 x.1, nV .i64 x.2]) (fun x W => W = w ∧ x.2 ≤ m ∧ x.1 = getB (r.take x.2)) (fun x => m - x.2) (0, 0) (fun _ => rfl) rfl ⟨rfl, by omega, by simp [getB]⟩ ?_
  rintro next ⟨n, i⟩ W hnext ⟨rfl, h2, h3⟩
  dsimp only at h2 h3
  show RunA _ _ _
  refine a_lss (ifd (fun hc => ?_) fun hc => ?_)
  · have hi : i < m := by omega
    refine w_at elB Tryd.isAgg5 hu (by omega) fun b hb => ?_
    obtain ⟨b, hb2, rfl⟩ := bytesV_get hb
    have hb8 := b.toNat_lt
    have hlt := getB_lt6 (l := r.take i) (by rw [List.length_take]; omega)
    have hp : 256 ^ (i + 1) ≤ 256 ^ 6 := Nat.pow_le_pow_right (by omega) (by omega)
    have hlt2 : getB (r.take i) < 256 ^ i := by have := getB_lt (r.take i); rwa [List.length_take, Nat.min_eq_left (by omega)] at this
    have hp2 : 256 ^ (i + 1) = 256 ^ i * 256 := Nat.pow_succ ..
    have hbig : n * 256 + 255 < 281474976710656 := by
      rw [h3]
      omega
    refine a_shlN (by decide) (by simp only [IntKind.max, IntKind.bits, IntKind.signed]; simp; omega) ?_
    refine v_ofByte Tryd.underlying5 Tryd.underlying3 (by decide) ?_
    refine a_orN (by simp only [IntKind.max, IntKind.bits, IntKind.signed]; simp; omega) (by simp only [IntKind.max, IntKind.bits, IntKind.signed]; simp; omega) ?_
    rw [shl_or (by omega)]
    refine a_add64 (by omega) (by omega) ⟨rfl, rfl, ?_⟩
    have e3 : ((i : Int) + 1) = ((i + 1 : Nat) : Int) := by push_cast; rfl
    rw [e3]
    refine hnext (n * 256 + b.toNat, i + 1) W (by dsimp only; omega) ⟨rfl, by dsimp only; omega, ?_⟩
    dsimp only
    rw [take_snoc hb2, getB_snoc, h3]
  · have : i = m := by omega
    subst this
    rw [List.take_of_length_le (by omega)] at h3
    subst h3
    exact h

/-- num.Crc -/
theorem crc_spec {v : Value} {l : List UInt8} {w : World} {R : Value → World → Prop} (hv : By w v l) (hl : l.length ≤ 140737488351232)
    (h : R (nV .u32 (crc l)) w) : CallF Tryd.prog 16 #[v] w R := by
  refine sh16_calls ?_
  unfold sh16
  refine w_lenS Tryd.underlying25 hv ?_
  refine lpx (α := Nat × Nat) (fun x => [nV .u32 x.1, nV .i64 x.2]) (fun x W => W = w ∧ x.2 ≤ l.length ∧ x.1 = crcS (l.take x.2) 4294967295) (fun x => l.length - x.2) (4294967295, 0) (fun _ => rfl) rfl ⟨rfl, by omega, by simp [crcS]⟩ ?_
  rintro next ⟨s, i⟩ W hnext ⟨rfl, h2, h3⟩
  dsimp only at h2 h3
  have hs := crcS_lt (l.take i) (s := 4294967295) (by decide)
  rw [← h3] at hs
  show RunA _ _ _
  refine a_lss (ifd (fun hc => ?_) fun hc => ?_)
  · refine w_at elB Tryd.isAgg5 hv (by omega) fun b hb => ?_
    obtain ⟨b, hb2, rfl⟩ := bytesV_get hb
    have hb8 := b.toNat_lt
    refine v_ofByte Tryd.underlying5 Tryd.underlying37 (by decide) ?_
    refine a_xorN (by simp only [IntKind.max, IntKind.bits, IntKind.signed]; simp; omega) (by simp only [IntKind.max, IntKind.bits, IntKind.signed]; simp; omega) ?_
    have hx0 : s ^^^ b.toNat < 4294967296 := Nat.xor_lt_two_pow (n := 32) hs (by omega)
    refine lpx (α := Nat × Nat) (fun x => [nV .u32 x.1, nV .i64 x.2]) (fun x W' => W' = W ∧ x.2 ≤ 8 ∧ x.1 = crcK x.2 (s ^^^ b.toNat)) (fun x => 8 - x.2) (s ^^^ b.toNat, 0) (fun _ => rfl) rfl ⟨rfl, by omega, rfl⟩ ?_
    rintro next2 ⟨x, k⟩ W2 hnext2 ⟨rfl, g2, g3⟩
    dsimp only at g2 g3
    have hx := crcK_lt k hx0
    rw [← g3] at hx
    show RunA _ _ _
    refine a_lss (ifd (fun hc => ?_) fun hc => ?_)
    · refine a_andN (by simp only [IntKind.max, IntKind.bits, IntKind.signed]; simp; omega) (m := 1) (by decide) ?_
      refine a_shrN (m := 1) (by decide) ?_
      refine jni (fun vs W' => ∃ y, vs = [nV .u32 y, v, nV .i64 l.length, nV .i64 i, nV .i64 k] ∧ W' = W2 ∧ y = crc1 x) ?_ ?_
      · rintro vs W' _ ⟨y, rfl, rfl, hy⟩
        show RunA _ _ _
        refine a_add64 (by omega) (by omega) ⟨rfl, rfl, rfl, ?_⟩
        have e3 : ((k : Int) + 1) = ((k + 1 : Nat) : Int) := by push_cast; rfl
        rw [e3]
        refine hnext2 (y, k + 1) W' (by dsimp only; omega) ⟨rfl, by dsimp only; omega, ?_⟩
        dsimp only
        rw [hy, g3, crcK_succ]
      · have e1 : x &&& 1 = x % 2 := Nat.and_one_is_mod x
        rw [e1]
        refine w_eql (ifd (fun hb => ?_) fun hb => ?_)
        · refine a_xorN (by simp only [IntKind.max, IntKind.bits, IntKind.signed]; simp; omega) (m := 3988292384) (by decide) ?_
          exact ⟨_, rfl, rfl, by unfold crc1; rw [if_pos (by omega)]⟩
        · exact ⟨_, rfl, rfl, by unfold crc1; rw [if_neg (by omega)]⟩
    · have : k = 8 := by omega
      subst this
      refine a_add64 (by omega) (by omega) ⟨rfl, rfl, ?_⟩
      have e3 : ((i : Int) + 1) = ((i + 1 : Nat) : Int) := by push_cast; rfl
      rw [e3]
      refine hnext (x, i + 1) W2 (by dsimp only; omega) ⟨rfl, by dsimp only; omega, ?_⟩
      dsimp only
      rw [take_snoc hb2, crcS_snoc, ← h3, g3]
      rfl
  · have : i = l.length := by omega
    subst this
    rw [List.take_length] at h3
    refine a_complN rfl (by simp only [IntKind.max, IntKind.bits, IntKind.signed]; simp; omega) ?_
    rw [h3]
    exact h

end Go.Proofs.YtknbnfpdcbpoeaaDoor
