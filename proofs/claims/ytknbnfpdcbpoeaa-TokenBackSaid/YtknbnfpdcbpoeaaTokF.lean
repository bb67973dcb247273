/-
  TOKENS: digits of 16 read, numbers in few bytes read: what each function answers.
-/
import Derived.Test.YtknbnfpdcbpoeaaTokD
namespace Go.Proofs.Ytknbnfpdcbpoeaa
open Go Go.Ez Go.RowKit Go.Lib
set_option linter.unusedSimpArgs false
set_option linter.unusedVariables false

/-- hblref1.Hex -/
theorem hex1_spec {v : Value} {l : List UInt8} {w : World} {R : Value → World → Prop} (hv : By w v l) (hl : l.length ≤ 10000000000) (h : ∀ w', Below w.heap.size w w' → R (.string ⟨(hexL l).toArray⟩) w') : CallF Try.prog 41 #[v] w R := by
  refine sh41_calls ?_
  unfold sh41
  refine lpx (α := Value × Nat) (fun x => [x.1, nV .i64 x.2]) (fun x W => x.2 ≤ l.length ∧ W.ownsRow w.heap.size 5 1 x.1 (hexL (l.take x.2)).length (bytesV (hexL (l.take x.2))) ∧ Below w.heap.size w W) (fun x => l.length - x.2) (.slice none 0 0, 0) (fun _ => rfl) rfl ⟨Nat.zero_le _, own_nil, Below.refl _ _⟩ ?_
  rintro next ⟨x, i⟩ W hnext ⟨h1, h2, h3⟩
  dsimp only at h1 h2 h3 ⊢
  have hlen : (hexL (l.take i)).length = 2 * i := by rw [hexL_length, List.length_take]; omega
  refine app2 ?_
  refine w_lenS Try.underlying22 hv ?_
  refine a_lss (ifd (fun hc => ?_) fun hc => ?_)
  · have hW : ∀ w', w' = W.drew → Below W.heap.size W w' := by rintro _ rfl; exact (Below.refl _ _).drew
    refine ⟨fun w' => w' = W.drew, rfl, ?_⟩
    have hil : i < l.length := by omega
    have hli := List.getElem?_eq_getElem hil
    generalize l[i] = b at hli
    have hb8 := b.toNat_lt
    refine s_at elB Try.isAgg5 (hv.below h3) hW hil fun u hu => ?_
    obtain ⟨b', hb', rfl⟩ := bytesV_get hu
    rw [hli] at hb'
    cases hb'
    refine a_shrN (k := .u8) (n := b.toNat) (m := 4) (by decide) ?_
    refine a_indexL (l := digs) Try.underlying9 (dig_at (by omega)) ?_
    refine s_at elB Try.isAgg5 (hv.below h3) hW hil fun u hu => ?_
    obtain ⟨b', hb', rfl⟩ := bytesV_get hu
    rw [hli] at hb'
    cases hb'
    refine a_andN (k := .u8) (n := b.toNat) (m := 15) (by simp only [IntKind.max, IntKind.bits, IntKind.signed]; simp; omega) (by decide) ?_
    have ea : b.toNat &&& 15 = b.toNat % 16 := Nat.and_two_pow_sub_one_eq_mod b.toNat 4
    rw [ea]
    refine a_indexL (l := digs) Try.underlying9 (dig_at (by omega)) ?_
    have h2d := h2.drew
    have h3d := h3.drew
    generalize W.drew = Wd at *
    refine v_lit2 elB rfl rfl ?_
    have m1 : Below Wd.heap.size Wd (Wd.alloc (.cells #[byteV (dig (b.toNat / 2 ^ 4)), byteV (dig (b.toNat % 16))] 5)) := (Below.refl _ _).alloc (Nat.le_refl _) _
    have o1 : By (Wd.alloc (.cells #[byteV (dig (b.toNat / 2 ^ 4)), byteV (dig (b.toNat % 16))] 5)) (.slice (some ⟨Wd.heap.size, 0, none⟩) 2 2) [dig (b.toNat / 2 ^ 4), dig (b.toNat % 16)] :=
      Sl.of_own (own_lit (base := 0) (cs := bytesV [dig (b.toNat / 2 ^ 4), dig (b.toNat % 16)]) (Nat.zero_le _) rfl (by unfold maxLen; omega))
    have h2a := ownsRow_ext h2d m1
    have h3a := h3d.trans (m1.mono h3d.size)
    generalize Wd.alloc (.cells #[byteV (dig (b.toNat / 2 ^ 4)), byteV (dig (b.toNat % 16))] 5) = Wa at *
    refine v_app elB h2a o1 (bytesV_one _) (by unfold maxLen; simp; omega) (by simp; omega) h3a.size fun x' W' g1 g2 _ => ?_
    rw [← bytesV_append, ← List.length_append] at g1
    have e : hexL (l.take (i + 1)) = hexL (l.take i) ++ [dig (b.toNat / 2 ^ 4), dig (b.toNat % 16)] := by
      rw [take_snoc hli, hexL_append]
      simp [hexL]
    rw [← e] at g1
    refine a_add64 (by omega) (by omega) ⟨rfl, rfl, ?_⟩
    have e3 : ((i : Int) + 1) = ((i + 1 : Nat) : Int) := by push_cast; rfl
    rw [e3]
    exact hnext (x', i + 1) W' (by dsimp only; omega) ⟨by dsimp only; omega, g1, h3a.grown g2 h3a.size (own_base h2a)⟩
  · have : i = l.length := by omega
    subst this
    rw [List.take_length] at h2
    exact v_str Try.underlying22 Try.underlying5 Try.underlying9 (Sl.of_own h2) (h W h3)

theorem or_pow {n m k : Nat} (h : n < 2 ^ k) : n ||| m * 2 ^ k = n + m * 2 ^ k := by
  have := Nat.two_pow_add_eq_or_of_lt h m
  rw [Nat.or_comm, Nat.mul_comm m, ← this, Nat.add_comm]

/-- num.ReadVar -/
theorem readVar_spec {v : Value} {l : List UInt8} {a : Int} {w : World} {R : Value → World → Prop} (hv : By w v l) (hl : l.length ≤ 100000000000000) (h : R (.tuple #[nV .i64 (rvR l a).1, nV .i64 (rvR l a).2.1, nV .i64 (rvR l a).2.2]) w) : CallF Try.prog 54 #[v, .int .i64 a] w R := by
  refine sh54_calls ?_
  unfold sh54
  unfold rvR at h
  refine a_lss (ifd (fun hc => by rw [if_pos (.inl hc)] at h; exact h) fun hc1 => ?_)
  refine w_lenS Try.underlying22 hv ?_
  refine a_gtr (ifd (fun hc => by rw [if_pos (.inr (by omega))] at h; exact h) fun hc2 => ?_)
  rw [if_neg (by omega)] at h
  obtain ⟨a, rfl⟩ := Int.eq_ofNat_of_zero_le (Int.not_lt.1 hc1)
  rw [Int.toNat_natCast] at h
  have ha : a ≤ l.length := by omega
  refine a_sliceL elB hv (by omega) (by omega) fun r hr => ?_
  rw [Int.toNat_natCast, Nat.mul_one] at hr
  have hr' : By w r (l.drop a) := by
    unfold By
    rw [List.length_drop]
    have : bytesV (l.drop a) = (bytesV l).drop a := by simp [bytesV, List.map_drop]
    rw [this]; exact hr
  have hrl : (l.drop a).length = l.length - a := List.length_drop ..
  generalize l.drop a = rest at h hr' hrl
  refine w_lenS Try.underlying22 hr' ?_
  refine lpx (α := Nat × Nat) (fun x => [nV .i64 x.1, nV .i64 x.2]) (fun x W => W = w ∧ x.2 ≤ rest.length ∧ x.2 ≤ 7 ∧ x.1 < 2 ^ (7 * x.2) ∧ rvGo rest 0 0 = rvGo (rest.drop x.2) x.2 x.1) (fun x => rest.length - x.2) (0, 0) (fun _ => rfl) rfl ⟨rfl, Nat.zero_le _, Nat.zero_le _, by simp, rfl⟩ ?_
  rintro next ⟨n, i⟩ W hnext ⟨rfl, h1, h2, h3, h4⟩
  dsimp only at h1 h2 h3 h4 ⊢
  refine app2 ?_
  refine a_lss (ifd (fun hc => ?_) fun hc => ?_)
  · have hil : i < rest.length := by omega
    have hli := List.getElem?_eq_getElem hil
    rw [List.drop_eq_getElem_cons hil] at h4
    generalize rest[i] = c at hli h4
    have hc8 := c.toNat_lt
    have hp8 : 2 ^ (7 * i) ≤ 2 ^ 49 := Nat.pow_le_pow_right (by omega) (by omega)
    have hpn : 2 ^ (7 * (i + 1)) = 2 ^ (7 * i) * 128 := by rw [Nat.mul_add, Nat.pow_add]
    have hm127 : c.toNat % 128 * 2 ^ (7 * i) ≤ 127 * 2 ^ (7 * i) := Nat.mul_le_mul_right _ (by omega)
    refine w_at elB Try.isAgg5 hr' hil fun u hu => ?_
    obtain ⟨b', hb', rfl⟩ := bytesV_get hu
    rw [hli] at hb'
    cases hb'
    refine a_andN (k := .u8) (n := c.toNat) (m := 127) (by simp only [IntKind.max, IntKind.bits, IntKind.signed]; simp; omega) (by decide) ?_
    have ea : c.toNat &&& 127 = c.toNat % 128 := Nat.and_two_pow_sub_one_eq_mod c.toNat 7
    rw [ea]
    refine v_convN (n := c.toNat % 128) Try.underlying5 Try.underlying3 (by simp only [IntKind.max, IntKind.bits, IntKind.signed]; simp; omega) ?_
    refine a_mul64 (by omega) (by omega) ?_
    have e7 : (7 : Int) * (i : Int) = ((7 * i : Nat) : Int) := by push_cast; rfl
    rw [e7]
    have hmx : ((c.toNat % 128 * 2 ^ (7 * i) : Nat) : Int) ≤ IntKind.i64.max := by
      have h5 : c.toNat % 128 * 2 ^ (7 * i) ≤ 9223372036854775807 := by omega
      have : IntKind.i64.max = ((9223372036854775807 : Nat) : Int) := rfl
      rw [this]; exact Int.ofNat_le.2 h5
    refine a_shlN (n := c.toNat % 128) (m := 7 * i) (by simp [IntKind.bits]; omega) hmx ?_
    refine a_orN (n := n) (m := c.toNat % 128 * 2 ^ (7 * i)) (by simp only [IntKind.max, IntKind.bits, IntKind.signed]; simp; omega) hmx ?_
    rw [or_pow h3]
    refine jni (fun vs W' => vs = [nV .i64 a, nV .i64 (n + c.toNat % 128 * 2 ^ (7 * i)), r, nV .i64 rest.length, nV .i64 i] ∧ W' = W ∧ 128 ≤ c.toNat ∧ i ≠ 7) ?_ ?_
    · rintro vs W' _ ⟨rfl, rfl, hbig, hi7⟩
      refine app5 ?_
      refine a_add64 (by omega) (by omega) ⟨rfl, rfl, rfl, ?_⟩
      have e3 : ((i : Int) + 1) = ((i + 1 : Nat) : Int) := by push_cast; rfl
      rw [e3]
      refine hnext (n + c.toNat % 128 * 2 ^ (7 * i), i + 1) W' (by dsimp only; omega) ⟨rfl, by dsimp only; omega, by dsimp only; omega, by dsimp only; omega, ?_⟩
      dsimp only
      rw [h4]
      conv => lhs; unfold rvGo
      rw [if_neg (by omega), if_neg hi7]
      have e : c.toNat - 128 = c.toNat % 128 := by omega
      rw [e]
    · have stop : ∀ (e : Nat), rvGo rest 0 0 = (0, 0, e) → e ≠ 0 → R (.tuple #[.int .i64 0, .int .i64 0, nV .i64 e]) W := fun e he hne => by
        rw [he, if_neg hne] at h
        exact h
      have form7 : ∀ (hbig : 128 ≤ c.toNat), i = 7 → R (.tuple #[.int .i64 0, .int .i64 0, nV .i64 4]) W := fun hbig hi7 => stop 4 (by rw [h4]; unfold rvGo; rw [if_neg (by omega), if_pos hi7]) (by decide)
      have fine : ∀ (hsm : c.toNat < 128), ¬ (c.toNat = 0 ∧ 0 < i) → RunA Try.prog (bin .add 3 (.tmp 47) (.tmp 48) (nV .i64 a) (nV .i64 i)) fun x => RunA Try.prog (bin .add 3 (.tmp 49) (.const (.int .i64 1)) x (.int .i64 1)) fun y => R (.tuple #[nV .i64 (n + c.toNat % 128 * 2 ^ (7 * i)), y, .int .i64 0]) W := fun hsm hz => by
        refine a_add64 (by omega) (by omega) ?_
        refine a_add64 (by omega) (by omega) ?_
        have he : rvGo rest 0 0 = (n + c.toNat * 2 ^ (7 * i), i + 1, 0) := by rw [h4]; unfold rvGo; rw [if_pos hsm, if_neg hz]
        rw [he, if_pos rfl] at h
        have e1 : c.toNat % 128 = c.toNat := Nat.mod_eq_of_lt hsm
        have e2 : ((a : Int) + (i : Int) + 1) = ((a + (i + 1) : Nat) : Int) := by push_cast; omega
        rw [e1, e2]
        exact h
      refine a_lss (ifd (fun h5 => ?_) fun h5 => ?_)
      · refine a_gtr (ifd (fun h6 => fine (by omega) (by omega)) fun h6 => ?_)
        refine w_eql (ifd (fun h7 => fine (by omega) (by omega)) fun h7 => ?_)
        refine w_eql (ifd (fun h8 => ?_) fun h8 => absurd (by omega) h8)
        exact stop 4 (by rw [h4]; unfold rvGo; rw [if_pos (by omega), if_pos (by omega)]) (by decide)
      · refine w_eql (ifd (fun h8 => by omega) fun h8 => ?_)
        exact w_eql (ifd (fun h9 => form7 (by omega) (by omega)) fun h9 => ⟨rfl, rfl, by omega, by omega⟩)
  · have : i = rest.length := by omega
    subst this
    rw [List.drop_length] at h4
    have he : rvGo rest 0 0 = (0, 0, 2) := by rw [h4]; unfold rvGo; rfl
    rw [he, if_neg (by decide)] at h
    exact h

end Go.Proofs.Ytknbnfpdcbpoeaa
