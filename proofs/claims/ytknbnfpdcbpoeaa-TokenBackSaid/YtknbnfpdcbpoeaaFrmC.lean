/-
  FRAMES: the document's numbers and sums: what each function answers.
-/
import Derived.Test.YtknbnfpdcbpoeaaFrmB
namespace Go.Proofs.Ytknbnfpdcbpoeaa
open Go Go.Ez Go.RowKit
set_option linter.unusedSimpArgs false
set_option linter.unusedVariables false

/-- hblref1.Put -/
theorem put1_spec {n width : Int} {w : World} {R : Value → World → Prop} (hn : n ≤ 9223372036854775807)
    (h : (width < 1 ∨ 6 < width ∨ n < 0 ∨ 2 ^ (8 * width.toNat) ≤ n.toNat) → R (.tuple #[.slice none 0 0, .int .i64 1]) w)
    (h' : 1 ≤ width → width ≤ 6 → 0 ≤ n → n.toNat < 2 ^ (8 * width.toNat) → ∀ v' w', w'.ownsRow w.heap.size 5 1 v' width.toNat (bytesV (be n.toNat width.toNat)) → Below w.heap.size w w' → R (.tuple #[v', .int .i64 0]) w') :
    CallF Try.prog 29 #[.int .i64 n, .int .i64 width] w R := by
  refine sh29_calls ?_
  unfold sh29
  refine a_lss (ifd (fun hc => h (.inl hc)) fun hc1 => ?_)
  refine a_gtr (ifd (fun hc => h (.inr (.inl hc))) fun hc2 => ?_)
  refine a_lss (ifd (fun hc => h (.inr (.inr (.inl hc)))) fun hc3 => ?_)
  obtain ⟨n, rfl⟩ := Int.eq_ofNat_of_zero_le (Int.not_lt.1 hc3)
  obtain ⟨m, rfl⟩ := Int.eq_ofNat_of_zero_le (show 0 ≤ width by omega)
  simp only [Int.toNat_natCast] at h h'
  refine a_mul64 (by omega) (by omega) ?_
  have e8 : (8 : Int) * (m : Int) = ((8 * m : Nat) : Int) := by push_cast; rfl
  rw [e8]
  refine v_convN Try.underlying3 Try.underlying78 (by simp only [IntKind.max, IntKind.bits, IntKind.signed]; simp; omega) ?_
  refine a_shrN (by simp [IntKind.bits]; omega) ?_
  refine a_gtr (ifd (fun hc => h (.inr (.inr (.inr ?_)))) fun hc4 => ?_)
  · have : 0 < n / 2 ^ (8 * m) := by exact_mod_cast hc
    exact (Nat.div_pos_iff.1 this).2
  have hlt : n < 2 ^ (8 * m) := by
    refine Nat.lt_of_not_le fun hle => hc4 ?_
    have : 0 < n / 2 ^ (8 * m) := Nat.div_pos hle (Nat.two_pow_pos _)
    exact_mod_cast this
  refine a_sub64 (by omega) (by omega) ?_
  refine lpx (α := Value × List UInt8 × Nat) (fun x => [x.1, .int .i64 ((x.2.2 : Int) - 1)])
    (fun x W => W.ownsRow w.heap.size 5 1 x.1 x.2.1.length (bytesV x.2.1) ∧ x.2.1 ++ be n x.2.2 = be n m ∧ Below w.heap.size w W) (fun x => x.2.2) (.slice none 0 0, [], m) (fun _ => rfl) rfl ⟨own_nil, rfl, Below.refl _ _⟩ ?_
  rintro next ⟨v, l, j⟩ W hnext ⟨h1, h2, h3⟩
  dsimp only at h1 h2 h3
  have hlen := congrArg List.length h2
  simp only [List.length_append, be_length] at hlen
  show RunA _ _ _
  refine a_geq (ifd (fun hc => ?_) fun hc => ?_)
  · obtain ⟨j, rfl⟩ : ∃ j', j = j' + 1 := ⟨j - 1, by dsimp only at hc; omega⟩
    have ej : ((j + 1 : Nat) : Int) - 1 = (j : Int) := by omega
    dsimp only
    rw [ej]
    refine a_mul64 (by omega) (by omega) ?_
    have e8 : (8 : Int) * (j : Int) = ((8 * j : Nat) : Int) := by push_cast; rfl
    rw [e8]
    refine v_convN Try.underlying3 Try.underlying78 (by simp only [IntKind.max, IntKind.bits, IntKind.signed]; simp; omega) ?_
    refine a_shrN (by simp [IntKind.bits]; omega) ?_
    refine v_byte Try.underlying3 Try.underlying5 ?_
    refine v_push elB h1 rfl (by unfold maxLen; omega) (by omega) h3.size ?_
    intro v' W' g1 g2 g3
    refine a_sub64 (by omega) (by omega) ⟨rfl, hnext (v', l ++ [UInt8.ofNat (n / 2 ^ (8 * j))], j) W' (Nat.lt_succ_self _) ⟨?_, ?_, ?_⟩⟩
    · rw [bytesV_append, List.length_append]; exact g1
    · rw [List.append_assoc]; exact h2
    · exact h3.grown g2 h3.size (own_base h1)
  · have : j = 0 := by dsimp only at hc; omega
    subst this
    have : l = be n m := by simpa [be] using h2
    subst this
    rw [be_length] at h1
    exact h' (by omega) (by omega) (by omega) hlt _ _ h1 h3

/-- hblref1.Get -/
theorem get1_spec {v : Value} {l : List UInt8} {w : World} {a width : Int} {R : Value → World → Prop} (hv : By w v l) (hl : l.length ≤ 140737488351232) (ha : a ≤ 140737488351232)
    (h : R (.tuple #[nV .i64 (getR l a width).1, nV .i64 (getR l a width).2]) w) : CallF Try.prog 31 #[v, .int .i64 a, .int .i64 width] w R := by
  refine sh31_calls ?_
  unfold sh31
  unfold getR at h
  refine a_lss (ifd (fun hc => by rw [if_pos (.inl hc)] at h; exact h) fun hc1 => ?_)
  refine a_gtr (ifd (fun hc => by rw [if_pos (.inr (.inl hc))] at h; exact h) fun hc2 => ?_)
  refine a_lss (ifd (fun hc => by rw [if_pos (.inr (.inr (.inl hc)))] at h; exact h) fun hc3 => ?_)
  refine w_lenS Try.underlying22 hv ?_
  refine a_gtr (ifd (fun hc => by rw [if_pos (.inr (.inr (.inr hc)))] at h; exact h) fun hc4 => ?_)
  rw [if_neg (by omega)] at h
  refine w_lenS Try.underlying22 hv ?_
  refine a_sub64 (by omega) (by omega) ?_
  refine a_lss (ifd (fun hc => by rw [if_pos hc] at h; exact h) fun hc5 => ?_)
  rw [if_neg hc5] at h
  obtain ⟨a, rfl⟩ := Int.eq_ofNat_of_zero_le (Int.not_lt.1 hc3)
  obtain ⟨m, rfl⟩ := Int.eq_ofNat_of_zero_le (show 0 ≤ width by omega)
  simp only [Int.toNat_natCast] at h
  generalize hr : (l.drop a).take m = r at h
  have hrl : r.length = m := by rw [← hr, List.length_take, List.length_drop]; omega
  refine lpx (α := Nat × Nat) (fun x => [nV .i64 x.1, nV .i64 x.2]) (fun x W => W = w ∧ x.2 ≤ m ∧ x.1 = getB (r.take x.2)) (fun x => m - x.2) (0, 0) (fun _ => rfl) rfl ⟨rfl, by omega, by simp [getB]⟩ ?_
  rintro next ⟨n, i⟩ W hnext ⟨rfl, h2, h3⟩
  dsimp only at h2 h3
  show RunA _ _ _
  refine a_lss (ifd (fun hc => ?_) fun hc => ?_)
  · have hi : i < m := by omega
    have hbl : (a + i) < l.length := by omega
    obtain ⟨b, hb2⟩ : ∃ b, r[i]? = some b := ⟨_, List.getElem?_eq_getElem (by omega)⟩
    have hb3 : l[a + i]? = some b := by rw [← hb2, ← hr, List.getElem?_take_of_lt (by omega), List.getElem?_drop]
    have hb8 := b.toNat_lt
    have hlt := getB_lt6 (l := r.take i) (by rw [List.length_take]; omega)
    have hp : 256 ^ (i + 1) ≤ 256 ^ 6 := Nat.pow_le_pow_right (by omega) (by omega)
    have hlt2 : getB (r.take i) < 256 ^ i := by have := getB_lt (r.take i); rwa [List.length_take, Nat.min_eq_left (by omega)] at this
    have hp2 : 256 ^ (i + 1) = 256 ^ i * 256 := Nat.pow_succ ..
    have hbig : n * 256 + 255 < 281474976710656 := by
      rw [h3]
      omega
    refine a_shlN (by decide) (by simp only [IntKind.max, IntKind.bits, IntKind.signed]; simp; omega) ?_
    refine a_add64 (by omega) (by omega) ?_
    have e1 : ((a : Int) + (i : Int)) = ((a + i : Nat) : Int) := by push_cast; rfl
    dsimp only
    rw [e1]
    refine w_at elB Try.isAgg5 hv hbl fun b' hb' => ?_
    obtain ⟨b', hb4, rfl⟩ := bytesV_get hb'
    rw [hb3] at hb4
    cases hb4
    refine v_ofByte Try.underlying5 Try.underlying3 (by decide) ?_
    refine a_orN (by simp only [IntKind.max, IntKind.bits, IntKind.signed]; simp; omega) (by simp only [IntKind.max, IntKind.bits, IntKind.signed]; simp; omega) ?_
    rw [shl_or (by omega)]
    refine a_add64 (by omega) (by omega) ⟨rfl, rfl, rfl, ?_⟩
    have e3 : ((i : Int) + 1) = ((i + 1 : Nat) : Int) := by push_cast; rfl
    rw [e3]
    refine hnext (n * 256 + b.toNat, i + 1) W (by dsimp only; omega) ⟨rfl, by dsimp only; omega, ?_⟩
    dsimp only
    rw [take_snoc hb2, getB_snoc, h3]
  · have : i = m := by omega
    subst this
    rw [List.take_of_length_le (by omega)] at h3
    subst h3
    exact h

/-- hblref1.Crc -/
theorem crc1_spec {v : Value} {l : List UInt8} {w : World} {R : Value → World → Prop} (hv : By w v l) (hl : l.length ≤ 140737488351232)
    (h : R (nV .u32 (crc l)) w) : CallF Try.prog 30 #[v] w R := by
  refine sh30_calls ?_
  unfold sh30
  refine lpx (α := Nat × Nat) (fun x => [nV .u32 x.1, nV .i64 x.2]) (fun x W => W = w ∧ x.2 ≤ l.length ∧ x.1 = crcS (l.take x.2) 4294967295) (fun x => l.length - x.2) (4294967295, 0) (fun _ => rfl) rfl ⟨rfl, by omega, by simp [crcS]⟩ ?_
  rintro next ⟨s, i⟩ W hnext ⟨rfl, h2, h3⟩
  dsimp only at h2 h3
  have hs := crcS_lt (l.take i) (s := 4294967295) (by decide)
  rw [← h3] at hs
  show RunW _ _ _ _
  refine w_lenS Try.underlying22 hv ?_
  refine a_lss (ifd (fun hc => ?_) fun hc => ?_)
  · refine w_at elB Try.isAgg5 hv (by omega) fun b hb => ?_
    obtain ⟨b, hb2, rfl⟩ := bytesV_get hb
    have hb8 := b.toNat_lt
    refine v_ofByte Try.underlying5 Try.underlying57 (by decide) ?_
    refine a_xorN (by simp only [IntKind.max, IntKind.bits, IntKind.signed]; simp; omega) (by simp only [IntKind.max, IntKind.bits, IntKind.signed]; simp; omega) ?_
    have hx0 : s ^^^ b.toNat < 4294967296 := Nat.xor_lt_two_pow (n := 32) hs (by omega)
    refine lpx (α := Nat × Nat) (fun x => [nV .u32 x.1, nV .i64 x.2]) (fun x W' => W' = W ∧ x.2 ≤ 8 ∧ x.1 = crcK x.2 (s ^^^ b.toNat)) (fun x => 8 - x.2) (s ^^^ b.toNat, 0) (fun _ => rfl) rfl ⟨rfl, by omega, rfl⟩ ?_
    rintro next2 ⟨x, k⟩ W2 hnext2 ⟨rfl, g2, g3⟩
    dsimp only at g2 g3
    have hx := crcK_lt k hx0
    rw [← g3] at hx
    show RunA _ _ _
    refine a_lss (ifd (fun hc => ?_) fun hc => ?_)
    · refine jni (fun vs W' => ∃ y, vs = [v, nV .u32 y, nV .i64 i, nV .i64 k] ∧ W' = W2 ∧ y = crc1 x) ?_ ?_
      · rintro vs W' _ ⟨y, rfl, rfl, hy⟩
        show RunA _ _ _
        refine a_add64 (by omega) (by omega) ⟨rfl, rfl, ?_⟩
        have e3 : ((k : Int) + 1) = ((k + 1 : Nat) : Int) := by push_cast; rfl
        rw [e3]
        refine hnext2 (y, k + 1) W' (by dsimp only; omega) ⟨rfl, by dsimp only; omega, ?_⟩
        dsimp only
        rw [hy, g3, crcK_succ]
      · refine a_andN (by simp only [IntKind.max, IntKind.bits, IntKind.signed]; simp; omega) (m := 1) (by decide) ?_
        have e1 : x &&& 1 = x % 2 := Nat.and_one_is_mod x
        rw [e1]
        refine w_eql (ifd (fun hb => ?_) fun hb => ?_)
        · refine a_shrN (m := 1) (by decide) ?_
          refine a_xorN (by simp only [IntKind.max, IntKind.bits, IntKind.signed]; simp; omega) (m := 3988292384) (by decide) ?_
          exact ⟨_, rfl, rfl, by unfold crc1; rw [if_pos (by omega)]⟩
        · refine a_shrN (m := 1) (by decide) ?_
          exact ⟨_, rfl, rfl, by unfold crc1; rw [if_neg (by omega)]⟩
    · have : k = 8 := by omega
      subst this
      refine a_add64 (by omega) (by omega) ⟨rfl, ?_⟩
      have e3 : ((i : Int) + 1) = ((i + 1 : Nat) : Int) := by push_cast; rfl
      rw [e3]
      refine hnext (x, i + 1) W2 (by dsimp only; omega) ⟨rfl, by dsimp only; omega, ?_⟩
      dsimp only
      rw [take_snoc hb2, crcS_snoc, ← h3, g3]
      rfl
  · have : i = l.length := by omega
    subst this
    rw [List.take_length] at h3
    refine a_complN rfl (by simp only [IntKind.max, IntKind.bits, IntKind.signed]; simp; omega) ?_
    rw [h3]
    exact h

end Go.Proofs.Ytknbnfpdcbpoeaa
