/-
  TOKENS: numbers in few bytes, digits of 16, names: what each function answers.
-/
import Derived.Test.YtknbnfpdcbpoeaaTokP
import Derived.Test.YtknbnfpdcbpoeaaBldA
import Derived.Test.YtknbnfpdcbpoeaaFrmC
namespace Go.Proofs.Ytknbnfpdcbpoeaa
open Go Go.Ez Go.RowKit Go.Lib
set_option linter.unusedSimpArgs false
set_option linter.unusedVariables false

theorem or128b {n : Nat} (h : n < 256) : n ||| 128 = n % 128 + 128 := by
  have e : ∀ m, m < 256 → m ||| 128 = m % 128 + 128 := by decide +kernel
  exact e n h
theorem or128 {n : Nat} (h : n < 128) : n ||| 128 = n + 128 := by rw [or128b (by omega), Nat.mod_eq_of_lt h]

/-- num.Var -/
theorem var_spec {n : Int} {w : World} {R : Value → World → Prop} (hn : n ≤ 9223372036854775807)
    (h0 : (n < 0 ∨ 72057594037927936 ≤ n) → R (.tuple #[.slice none 0 0, .int .i64 1]) w)
    (h : 0 ≤ n → n < 72057594037927936 → ∀ v' w', w'.ownsRow w.heap.size 5 1 v' (varB n.toNat).length (bytesV (varB n.toNat)) → Below w.heap.size w w' → R (.tuple #[v', .int .i64 0]) w') :
    CallF Try.prog 49 #[.int .i64 n] w R := by
  refine sh49_calls ?_
  unfold sh49
  refine a_lss (ifd (fun hc => h0 (.inl hc)) fun hc1 => ?_)
  obtain ⟨n, rfl⟩ := Int.eq_ofNat_of_zero_le (Int.not_lt.1 hc1)
  simp only [Int.toNat_natCast] at h
  refine a_shrN (m := 56) (by decide) ?_
  refine a_gtr (ifd (fun hc => h0 (.inr (by omega))) fun hc2 => ?_)
  refine lpx (α := Nat × Value × List UInt8) (fun x => [nV .i64 x.1, x.2.1]) (fun x W => W.ownsRow w.heap.size 5 1 x.2.1 x.2.2.length (bytesV x.2.2) ∧ x.2.2 ++ varB x.1 = varB n ∧ Below w.heap.size w W ∧ x.1 ≤ n) (fun x => x.1) (n, .slice none 0 0, []) (fun _ => rfl) rfl ⟨own_nil, rfl, Below.refl _ _, Nat.le_refl _⟩ ?_
  rintro next ⟨m, v, l⟩ W hnext ⟨h1, h2, h3, h4⟩
  dsimp only at h1 h2 h3 h4 ⊢
  have hlen := congrArg List.length h2
  have hl8 := varB_len8 (n := n) (by omega)
  have hp := varB_pos m
  rw [List.length_append] at hlen
  refine app2 ?_
  refine a_geq (ifd (fun hc => ?_) fun hc => ?_)
  · refine v_byte Try.underlying3 Try.underlying5 ?_
    have hb := (UInt8.ofNat m).toNat_lt
    refine a_orN (n := (UInt8.ofNat m).toNat) (m := 128) (by simp only [IntKind.max, IntKind.bits, IntKind.signed]; simp; omega) (by decide) ?_
    have e1 : (UInt8.ofNat m).toNat ||| 128 = m % 128 + 128 := by
      rw [or128b hb, UInt8.toNat_ofNat']
      omega
    have e2 : nV .u8 ((UInt8.ofNat m).toNat ||| 128) = byteV (UInt8.ofNat (m % 128 + 128)) := by
      have e3 : (UInt8.ofNat (m % 128 + 128)).toNat = m % 128 + 128 := by rw [UInt8.toNat_ofNat']; exact Nat.mod_eq_of_lt (by omega)
      unfold byteV; rw [e1, e3]
    rw [e2]
    refine v_push elB h1 rfl (by unfold maxLen; omega) (by omega) h3.size fun v' W' g1 g2 g3 => ?_
    refine a_shrN (m := 7) (by decide) ?_
    refine hnext (m / 128, v', l ++ [UInt8.ofNat (m % 128 + 128)]) W' (by dsimp only; omega) ⟨?_, ?_, h3.grown g2 h3.size (own_base h1), by dsimp only; omega⟩
    · dsimp only; rw [bytesV_append, List.length_append]; exact g1
    · dsimp only
      rw [List.append_assoc, ← h2, varB_big (n := m) (by omega)]
      rfl
  · refine v_byte Try.underlying3 Try.underlying5 ?_
    refine v_push elB h1 rfl (by unfold maxLen; omega) (by omega) h3.size fun v' W' g1 g2 g3 => ?_
    have e : varB n = l ++ [UInt8.ofNat m] := by rw [← h2, varB_small (n := m) (by omega)]
    refine h (by omega) (by omega) v' W' ?_ (h3.grown g2 h3.size (own_base h1))
    rw [e, bytesV_append, List.length_append]; exact g1

/-- hblref1.Var -/
theorem var1_spec {n : Int} {w : World} {R : Value → World → Prop} (hn : n ≤ 9223372036854775807)
    (h0 : (n < 0 ∨ 72057594037927936 ≤ n) → R (.tuple #[.slice none 0 0, .int .i64 1]) w)
    (h : 0 ≤ n → n < 72057594037927936 → ∀ v' w', w'.ownsRow w.heap.size 5 1 v' (varB n.toNat).length (bytesV (varB n.toNat)) → Below w.heap.size w w' → R (.tuple #[v', .int .i64 0]) w') :
    CallF Try.prog 52 #[.int .i64 n] w R := by
  refine sh52_calls ?_
  unfold sh52
  refine a_lss (ifd (fun hc => h0 (.inl hc)) fun hc1 => ?_)
  obtain ⟨n, rfl⟩ := Int.eq_ofNat_of_zero_le (Int.not_lt.1 hc1)
  simp only [Int.toNat_natCast] at h
  refine a_geq (ifd (fun hc => h0 (.inr (by omega))) fun hc2 => ?_)
  refine lpx (α := Nat × Value × List UInt8) (fun x => [nV .i64 x.1, x.2.1]) (fun x W => W.ownsRow w.heap.size 5 1 x.2.1 x.2.2.length (bytesV x.2.2) ∧ x.2.2 ++ varB x.1 = varB n ∧ Below w.heap.size w W ∧ x.1 ≤ n) (fun x => x.1) (n, .slice none 0 0, []) (fun _ => rfl) rfl ⟨own_nil, rfl, Below.refl _ _, Nat.le_refl _⟩ ?_
  rintro next ⟨m, v, l⟩ W hnext ⟨h1, h2, h3, h4⟩
  dsimp only at h1 h2 h3 h4 ⊢
  have hlen := congrArg List.length h2
  have hl8 := varB_len8 (n := n) (by omega)
  have hp := varB_pos m
  rw [List.length_append] at hlen
  refine app2 ?_
  refine a_geq (ifd (fun hc => ?_) fun hc => ?_)
  · refine a_andN (n := m) (m := 127) (by simp only [IntKind.max, IntKind.bits, IntKind.signed]; simp; omega) (by decide) ?_
    have ea : m &&& 127 = m % 128 := Nat.and_two_pow_sub_one_eq_mod m 7
    rw [ea]
    refine a_orN (n := m % 128) (m := 128) (by simp only [IntKind.max, IntKind.bits, IntKind.signed]; simp; omega) (by decide) ?_
    rw [or128 (by omega)]
    refine v_byte Try.underlying3 Try.underlying5 ?_
    refine v_push elB h1 rfl (by unfold maxLen; omega) (by omega) h3.size fun v' W' g1 g2 g3 => ?_
    refine a_shrN (m := 7) (by decide) ?_
    refine hnext (m / 128, v', l ++ [UInt8.ofNat (m % 128 + 128)]) W' (by dsimp only; omega) ⟨?_, ?_, h3.grown g2 h3.size (own_base h1), by dsimp only; omega⟩
    · dsimp only; rw [bytesV_append, List.length_append]; exact g1
    · dsimp only
      rw [List.append_assoc, ← h2, varB_big (n := m) (by omega)]
      rfl
  · refine v_byte Try.underlying3 Try.underlying5 ?_
    refine v_push elB h1 rfl (by unfold maxLen; omega) (by omega) h3.size fun v' W' g1 g2 g3 => ?_
    have e : varB n = l ++ [UInt8.ofNat m] := by rw [← h2, varB_small (n := m) (by omega)]
    refine h (by omega) (by omega) v' W' ?_ (h3.grown g2 h3.size (own_base h1))
    rw [e, bytesV_append, List.length_append]; exact g1

/-- num.Hex -/
theorem hex_spec {v : Value} {l : List UInt8} {w : World} {R : Value → World → Prop} (hv : By w v l) (hl : l.length ≤ 10000000000) (h : ∀ w', Below w.heap.size w w' → R (.string ⟨(hexL l).toArray⟩) w') : CallF Try.prog 38 #[v] w R := by
  refine sh38_calls ?_
  unfold sh38
  refine v_allocRec Try.zeroValue82 fun w1 z1 r1 m1 => ?_
  refine w_lenS Try.underlying22 hv ?_
  have hb1 : IsBuilder 82 5 w.heap.size w.heap.size (bytesV []) w1 := .inl ⟨Nat.le_refl _, .slice none 0 0, r1, own_nil, by simp [Value.ownBlock]⟩
  refine lpx (α := Nat) (fun i => [nV .i64 i]) (fun i W => i ≤ l.length ∧ IsBuilder 82 5 w.heap.size w.heap.size (bytesV (hexL (l.take i))) W ∧ Below w.heap.size w W) (fun i => l.length - i) 0 (fun _ => rfl) rfl ⟨Nat.zero_le _, hb1, m1⟩ ?_
  rintro next i W hnext ⟨h1, h2, h3⟩
  have hlen : (hexL (l.take i)).length = 2 * i := by rw [hexL_length, List.length_take]; omega
  refine app1 ?_
  refine a_lss (ifd (fun hc => ?_) fun hc => ?_)
  · refine w_at elB Try.isAgg5 (hv.below h3) (by omega) fun b hb => ?_
    obtain ⟨b, hb2, rfl⟩ := bytesV_get hb
    have hb8 := b.toNat_lt
    refine a_shrN (k := .u8) (n := b.toNat) (m := 4) (by decide) ?_
    refine a_indexL (l := digs) Try.underlying9 (dig_at (by omega)) ?_
    refine writeByte_spec h2 (by omega) h3.size fun w2 g1 g2 g3 => ?_
    refine a_andN (k := .u8) (n := b.toNat) (m := 15) (by simp only [IntKind.max, IntKind.bits, IntKind.signed]; simp; omega) (by decide) ?_
    have ea : b.toNat &&& 15 = b.toNat % 16 := Nat.and_two_pow_sub_one_eq_mod b.toNat 4
    rw [ea]
    refine a_indexL (l := digs) Try.underlying9 (dig_at (by omega)) ?_
    refine writeByte_spec g1 (by rw [List.length_append]; simp; omega) (Nat.le_trans h3.size g3) fun w3 k1 k2 k3 => ?_
    refine a_add64 (by omega) (by omega) ⟨rfl, rfl, rfl, ?_⟩
    have e3 : ((i : Int) + 1) = ((i + 1 : Nat) : Int) := by push_cast; rfl
    rw [e3]
    refine hnext (i + 1) w3 (by omega) ⟨by omega, ?_, h3.trans (g2.trans k2)⟩
    have e : hexL (l.take (i + 1)) = hexL (l.take i) ++ [dig (b.toNat / 2 ^ 4)] ++ [dig (b.toNat % 16)] := by
      rw [take_snoc hb2, hexL_append]
      simp [hexL]
    rw [e]; exact k1
  · have : i = l.length := by omega
    subst this
    rw [List.take_length] at h2 hlen
    refine string_spec h2 (by omega) h3.size fun w4 h4 => ?_
    exact h w4 (h3.trans h4)

end Go.Proofs.Ytknbnfpdcbpoeaa
