/-
  TOKENS: digits of 16 read: what each function answers.
-/
import Derived.Test.YtknbnfpdcbpoeaaTokH
namespace Go.Proofs.Ytknbnfpdcbpoeaa
open Go Go.Ez Go.RowKit Go.Lib
set_option linter.unusedSimpArgs false
set_option linter.unusedVariables false

theorem hex_pair {x y : Nat} (hx : x < 16) (hy : y < 16) : hexL [UInt8.ofNat (x * 16 + y)] = [dig x, dig y] := by
  have e : (UInt8.ofNat (x * 16 + y)).toNat = x * 16 + y := by rw [UInt8.toNat_ofNat']; exact Nat.mod_eq_of_lt (by omega)
  show [dig ((UInt8.ofNat (x * 16 + y)).toNat / 16), dig ((UInt8.ofNat (x * 16 + y)).toNat % 16)] = _
  rw [e]
  have e1 : (x * 16 + y) / 16 = x := by omega
  have e2 : (x * 16 + y) % 16 = y := by omega
  rw [e1, e2]
theorem shl_or4 {n b : Nat} (hb : b < 16) : n * 2 ^ 4 ||| b = n * 16 + b := by
  have := Nat.two_pow_add_eq_or_of_lt (i := 4) (b := b) (by omega) n
  rw [Nat.mul_comm n (2 ^ 4), ← this]
/-- the digits of a byte's text, by its place -/
theorem hex_at {m : List UInt8} {j : Nat} {c : UInt8} (hj : m[j]? = some c) : (hexL m)[2 * j]? = some (dig (c.toNat / 16)) ∧ (hexL m)[2 * j + 1]? = some (dig (c.toNat % 16)) := by
  obtain ⟨hlt, he⟩ := List.getElem?_eq_some_iff.1 hj
  have hs : m = m.take j ++ m[j] :: m.drop (j + 1) := by rw [← List.drop_eq_getElem_cons hlt, List.take_append_drop]
  have h1 : hexL m = hexL (m.take j) ++ (dig (c.toNat / 16) :: dig (c.toNat % 16) :: hexL (m.drop (j + 1))) := by
    conv => lhs; rw [hs]
    rw [hexL_append, he]
    rfl
  have h2 : (hexL (m.take j)).length = 2 * j := by rw [hexL_length, List.length_take]; omega
  rw [h1]
  refine ⟨?_, ?_⟩
  · rw [List.getElem?_append_right (by omega), h2]; simp
  · rw [List.getElem?_append_right (by omega), h2]
    have : 2 * j + 1 - 2 * j = 1 := by omega
    rw [this]; rfl

/-- num.Unhex -/
theorem unhex_spec {s : List UInt8} {w : World} {R : Value → World → Prop} (hl : s.length ≤ 100000000000)
    (h0 : (∀ m, s ≠ hexL m) → ∀ w', Below w.heap.size w w' → R (.tuple #[.slice none 0 0, .bool false]) w')
    (h1 : ∀ m, s = hexL m → ∀ v' w', w'.ownsRow w.heap.size 5 1 v' m.length (bytesV m) → Below w.heap.size w w' → R (.tuple #[v', .bool true]) w') : CallF Try.prog 42 #[strV s] w R := by
  refine sh42_calls ?_
  unfold sh42
  refine w_lenL Try.underlying9 ?_
  refine a_rem64 (by omega) (by omega) ?_
  refine w_neq (ifd (fun hc => h0 (fun m hm => by rw [hm, hexL_length] at hc; omega) w (Below.refl _ _)) fun hc0 => ?_)
  refine lpx (α := Value × List UInt8) (fun x => [x.1, nV .i64 (2 * x.2.length)]) (fun x W => W.ownsRow w.heap.size 5 1 x.1 x.2.length (bytesV x.2) ∧ Below w.heap.size w W ∧ 2 * x.2.length ≤ s.length ∧ s.take (2 * x.2.length) = hexL x.2) (fun x => s.length - 2 * x.2.length) (.slice none 0 0, []) (fun _ => rfl) rfl ⟨own_nil, Below.refl _ _, by simp, rfl⟩ ?_
  rintro next ⟨v, acc⟩ W hnext ⟨g1, g2, g3, g4⟩
  dsimp only at g1 g2 g3 g4 ⊢
  generalize hi : 2 * acc.length = i at *
  refine app2 ?_
  refine w_lenL Try.underlying9 ?_
  refine a_lss (ifd (fun hc => ?_) fun hc => ?_)
  · have hil : i < s.length := by omega
    have hil1 : i + 1 < s.length := by omega
    have hli := List.getElem?_eq_getElem hil
    have hli1 := List.getElem?_eq_getElem hil1
    generalize s[i] = a at hli
    generalize s[i + 1] = b at hli1
    refine ⟨fun W' => Below W.heap.size W W', (Below.refl _ _).drew, ?_⟩
    refine a_indexL Try.underlying9 hli ?_
    refine a_add64 (by omega) (by omega) ?_
    have e1 : ((i : Int) + 1) = ((i + 1 : Nat) : Int) := by push_cast; rfl
    rw [e1]
    refine a_indexL Try.underlying9 hli1 ?_
    refine indexByte_spec (l := digs) ?_
    refine indexByte_spec (l := digs) ?_
    have none_of : undig a < 0 ∨ undig b < 0 → ∀ m, s ≠ hexL m := by
      rintro hneg m rfl
      have hj : acc.length < m.length := by rw [hexL_length] at hil; omega
      have := hex_at (List.getElem?_eq_getElem hj)
      have hc := m[acc.length].toNat_lt
      rw [hi] at this
      rw [this.1] at hli
      rw [this.2] at hli1
      cases hli
      cases hli1
      rw [undig_dig _ (by omega), undig_dig _ (by omega)] at hneg
      omega
    refine a_lss (ifd (fun hn => h0 (none_of (.inl hn)) _ g2.drew) fun hn1 => ?_)
    refine a_lss (ifd (fun hn => h0 (none_of (.inr hn)) _ g2.drew) fun hn2 => ?_)
    rcases undig_cases a with ha | ⟨ha0, ha1, ha2⟩
    · exact absurd (by show undig a < 0; omega) hn1
    rcases undig_cases b with hb | ⟨hb0, hb1, hb2⟩
    · exact absurd (by show undig b < 0; omega) hn2
    obtain ⟨x, hx⟩ := Int.eq_ofNat_of_zero_le ha0
    obtain ⟨y, hy⟩ := Int.eq_ofNat_of_zero_le hb0
    have hx' : firstIdx ⟨digs.toArray⟩ a = x := hx
    have hy' : firstIdx ⟨digs.toArray⟩ b = y := hy
    rw [hx', hy']
    rw [hx] at ha1 ha2
    rw [hy] at hb1 hb2
    simp only [Int.toNat_natCast] at ha2 hb2
    refine a_shlN (n := x) (m := 4) (by decide) (by simp only [IntKind.max, IntKind.bits, IntKind.signed]; simp; omega) ?_
    refine a_orN (m := y) (by simp only [IntKind.max, IntKind.bits, IntKind.signed]; simp; omega) (by simp only [IntKind.max, IntKind.bits, IntKind.signed]; simp; omega) ?_
    rw [shl_or4 (by omega)]
    have g1d := g1.drew
    have g2d := g2.drew
    generalize W.drew = Wd at *
    refine v_byte Try.underlying3 Try.underlying5 ?_
    refine v_push elB g1d rfl (by unfold maxLen; omega) (by omega) g2d.size fun v' W' k1 k2 _ => ?_
    have e : bytesV acc ++ [byteV (UInt8.ofNat (x * 16 + y))] = bytesV (acc ++ [UInt8.ofNat (x * 16 + y)]) := by rw [bytesV_append]; rfl
    rw [e] at k1
    have hlen : (acc ++ [UInt8.ofNat (x * 16 + y)]).length = acc.length + 1 := by simp
    refine a_add64 (by omega) (by omega) ⟨rfl, ?_⟩
    have e2 : ((i : Int) + 2) = ((2 * (acc ++ [UInt8.ofNat (x * 16 + y)]).length : Nat) : Int) := by rw [hlen]; push_cast; omega
    rw [e2]
    refine hnext (v', acc ++ [UInt8.ofNat (x * 16 + y)]) W' (by dsimp only; rw [hlen]; omega) ⟨by dsimp only; rw [hlen]; exact k1, g2d.grown k2 g2d.size (own_base g1d), by dsimp only; rw [hlen]; omega, ?_⟩
    dsimp only
    have e4 : 2 * (acc ++ [UInt8.ofNat (x * 16 + y)]).length = i + 1 + 1 := by rw [hlen]; omega
    rw [e4, take_snoc hli1, take_snoc hli, g4, hexL_append, hex_pair (by omega) (by omega), ha2, hb2]
    simp
  · have : i = s.length := by omega
    subst this
    rw [List.take_length] at g4
    exact h1 acc g4 v W g1 g2

end Go.Proofs.Ytknbnfpdcbpoeaa
