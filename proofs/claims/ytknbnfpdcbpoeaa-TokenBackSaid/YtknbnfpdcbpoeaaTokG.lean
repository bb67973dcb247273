/-
  TOKENS: the document's numbers in few bytes, names, tokens' texts: what each function answers.
-/
import Derived.Test.YtknbnfpdcbpoeaaTokF
namespace Go.Proofs.Ytknbnfpdcbpoeaa
open Go Go.Ez Go.RowKit Go.Lib
set_option linter.unusedSimpArgs false
set_option linter.unusedVariables false

/-- hblref1.ReadVar -/
theorem readVar1_spec {v : Value} {l : List UInt8} {a : Int} {w : World} {R : Value → World → Prop} (hv : By w v l) (hl : l.length ≤ 100000000000000) (h : R (.tuple #[nV .i64 (rvR l a).1, nV .i64 (rvR l a).2.1, nV .i64 (rvR l a).2.2]) w) : CallF Try.prog 46 #[v, .int .i64 a] w R := by
  refine sh46_calls ?_
  unfold sh46
  unfold rvR at h
  refine a_lss (ifd (fun hc => by rw [if_pos (.inl hc)] at h; exact h) fun hc1 => ?_)
  refine w_lenS Try.underlying22 hv ?_
  refine a_gtr (ifd (fun hc => by rw [if_pos (.inr (by omega))] at h; exact h) fun hc2 => ?_)
  rw [if_neg (by omega)] at h
  obtain ⟨a, rfl⟩ := Int.eq_ofNat_of_zero_le (Int.not_lt.1 hc1)
  rw [Int.toNat_natCast] at h
  have ha : a ≤ l.length := by omega
  refine lpx (α := Nat × Nat) (fun x => [nV .i64 x.1, nV .i64 x.2]) (fun x W => W = w ∧ a + x.2 ≤ l.length ∧ x.2 ≤ 8 ∧ (x.2 ≤ 7 → x.1 < 2 ^ (7 * x.2) ∧ rvGo (l.drop a) 0 0 = rvGo (l.drop (a + x.2)) x.2 x.1) ∧ (x.2 = 8 → rvGo (l.drop a) 0 0 = (0, 0, 4))) (fun x => 8 - x.2) (0, 0) (fun _ => rfl) rfl ⟨rfl, by omega, Nat.zero_le _, fun _ => ⟨by simp, rfl⟩, by simp⟩ ?_
  rintro next ⟨n, i⟩ W hnext ⟨rfl, h1, h2, h34, h8⟩
  dsimp only at h1 h2 h34 h8 ⊢
  refine app2 ?_
  refine a_lss (ifd (fun hc => ?_) fun hc => ?_)
  rotate_left
  · rw [h8 (by omega), if_neg (by decide)] at h
    exact h
  obtain ⟨h3, h4⟩ := h34 (by omega)
  clear h8
  have ei : ((a : Int) + (i : Int)) = ((a + i : Nat) : Int) := by push_cast; rfl
  refine a_add64 (by omega) (by omega) ?_
  refine w_lenS Try.underlying22 hv ?_
  have stop : ∀ (e : Nat), rvGo (l.drop a) 0 0 = (0, 0, e) → e ≠ 0 → R (.tuple #[.int .i64 0, .int .i64 0, nV .i64 e]) W := fun e he hne => by
    rw [he, if_neg hne] at h
    exact h
  refine a_geq (ifd (fun hc5 => ?_) fun hc5 => ?_)
  · refine stop 2 ?_ (by decide)
    rw [h4, List.drop_of_length_le (by omega)]
    unfold rvGo; rfl
  have hil : a + i < l.length := by omega
  have hli := List.getElem?_eq_getElem hil
  rw [List.drop_eq_getElem_cons hil] at h4
  generalize l[a + i] = c at hli h4
  have hc8 := c.toNat_lt
  have hp8 : 2 ^ (7 * i) ≤ 2 ^ 49 := Nat.pow_le_pow_right (by omega) (by omega)
  have hpn : 2 ^ (7 * (i + 1)) = 2 ^ (7 * i) * 128 := by rw [Nat.mul_add, Nat.pow_add]
  have hm127 : c.toNat % 128 * 2 ^ (7 * i) ≤ 127 * 2 ^ (7 * i) := Nat.mul_le_mul_right _ (by omega)
  refine a_add64 (by omega) (by omega) ?_
  rw [ei]
  refine w_at elB Try.isAgg5 hv hil fun u hu => ?_
  obtain ⟨b', hb', rfl⟩ := bytesV_get hu
  rw [hli] at hb'
  cases hb'
  refine v_ofByte Try.underlying5 Try.underlying3 (by decide) ?_
  refine a_andN (n := c.toNat) (m := 127) (by simp only [IntKind.max, IntKind.bits, IntKind.signed]; simp; omega) (by decide) ?_
  have ea : c.toNat &&& 127 = c.toNat % 128 := Nat.and_two_pow_sub_one_eq_mod c.toNat 7
  rw [ea]
  refine a_mul64 (by omega) (by omega) ?_
  have e7 : (7 : Int) * (i : Int) = ((7 * i : Nat) : Int) := by push_cast; rfl
  rw [e7]
  refine v_convN (n := 7 * i) Try.underlying3 Try.underlying78 (by simp only [IntKind.max, IntKind.bits, IntKind.signed]; simp; omega) ?_
  have hmx : ((c.toNat % 128 * 2 ^ (7 * i) : Nat) : Int) ≤ IntKind.i64.max := by
    have h5 : c.toNat % 128 * 2 ^ (7 * i) ≤ 9223372036854775807 := by omega
    have : IntKind.i64.max = ((9223372036854775807 : Nat) : Int) := rfl
    rw [this]; exact Int.ofNat_le.2 h5
  refine a_shlN (n := c.toNat % 128) (m := 7 * i) (by simp [IntKind.bits]; omega) hmx ?_
  refine a_orN (n := n) (m := c.toNat % 128 * 2 ^ (7 * i)) (by simp only [IntKind.max, IntKind.bits, IntKind.signed]; simp; omega) hmx ?_
  rw [or_pow h3]
  refine a_lss (ifd (fun h5 => ?_) fun h5 => ?_)
  · refine jni (fun vs W' => vs = [nV .i64 a, nV .i64 (n + c.toNat % 128 * 2 ^ (7 * i)), nV .i64 i] ∧ W' = W ∧ ¬ (c.toNat = 0 ∧ 0 < i)) ?_ ?_
    · rintro vs W' _ ⟨rfl, rfl, hz⟩
      refine app3 ?_
      refine a_add64 (by omega) (by omega) ?_
      refine a_add64 (by omega) (by omega) ?_
      have hsm : c.toNat < 128 := by omega
      have he : rvGo (l.drop a) 0 0 = (n + c.toNat * 2 ^ (7 * i), i + 1, 0) := by rw [h4]; unfold rvGo; rw [if_pos hsm, if_neg hz]
      rw [he, if_pos rfl] at h
      have e1 : c.toNat % 128 = c.toNat := Nat.mod_eq_of_lt hsm
      have e2 : ((a : Int) + (i : Int) + 1) = ((a + (i + 1) : Nat) : Int) := by push_cast; omega
      rw [e1, e2]
      exact h
    · refine w_eql (ifd (fun h6 => ?_) fun h6 => ⟨rfl, rfl, by omega⟩)
      refine a_gtr (ifd (fun h7 => ?_) fun h7 => ⟨rfl, rfl, by omega⟩)
      exact stop 4 (by rw [h4]; unfold rvGo; rw [if_pos (by omega), if_pos (by omega)]) (by decide)
  · by_cases hi7 : i = 7
    · refine a_add64 (by omega) (by omega) ⟨rfl, rfl, ?_⟩
      have e3 : ((i : Int) + 1) = ((i + 1 : Nat) : Int) := by push_cast; rfl
      rw [e3]
      refine hnext (n + c.toNat % 128 * 2 ^ (7 * i), i + 1) W (by dsimp only; omega) ⟨rfl, by dsimp only; omega, by dsimp only; omega, fun hx => by dsimp only at hx; omega, fun _ => ?_⟩
      rw [h4]
      unfold rvGo
      rw [if_neg (by omega), if_pos hi7]
    · refine a_add64 (by omega) (by omega) ⟨rfl, rfl, ?_⟩
      have e3 : ((i : Int) + 1) = ((i + 1 : Nat) : Int) := by push_cast; rfl
      rw [e3]
      refine hnext (n + c.toNat % 128 * 2 ^ (7 * i), i + 1) W (by dsimp only; omega) ⟨rfl, by dsimp only; omega, by dsimp only; omega, fun _ => ⟨by dsimp only; omega, ?_⟩, fun hx => by dsimp only at hx; omega⟩
      dsimp only
      rw [h4]
      conv => lhs; unfold rvGo
      rw [if_neg (by omega), if_neg hi7]
      have e : c.toNat - 128 = c.toNat % 128 := by omega
      rw [e]
      rfl

/-- hblref20.num -/
theorem rnum_spec {n : Nat} {w : World} {R : Value → World → Prop} (hn : n < 72057594037927936) (h : ∀ v' w', w'.ownsRow w.heap.size 5 1 v' (varB n).length (bytesV (varB n)) → Below w.heap.size w w' → R v' w') : CallF Try.prog 40 #[nV .i64 n] w R := by
  refine sh40_calls ?_
  unfold sh40
  refine var1_spec (by omega) (fun hx => by omega) fun _ _ v' w' h1 h2 => ?_
  rw [Int.toNat_natCast] at h1
  exact a_ext0 (a_ext1 (h v' w' h1 h2))

/-- hblref14.Name -/
theorem rname_spec {l : List UInt8} {w : World} {R : Value → World → Prop} (hl : l.length ≤ 9223372036854775807) (h : R (.bool (decide (nameOk l))) w) : CallF Try.prog 47 #[strV l] w R := by
  refine sh47_calls ?_
  unfold sh47
  refine lpx (α := Nat) (fun i => [nV .i64 i]) (fun i W => W = w ∧ i ≤ l.length ∧ ∀ c ∈ l.take i, okc c) (fun i => l.length - i) 0 (fun _ => rfl) rfl ⟨rfl, Nat.zero_le _, by simp⟩ ?_
  rintro next i W hnext ⟨rfl, h1, h2⟩
  refine app1 ?_
  refine w_lenL Try.underlying9 ?_
  refine a_lss (ifd (fun hc => ?_) fun hc => ?_)
  · have hil : i < l.length := by omega
    have hli := List.getElem?_eq_getElem hil
    generalize l[i] = c at hli
    refine a_indexL Try.underlying9 hli ?_
    refine jni (fun vs W' => vs = [strV l, nV .i64 i] ∧ W' = W ∧ okc c) ?_ ?_
    · rintro vs W' _ ⟨rfl, rfl, hok⟩
      refine app2 ?_
      refine a_add64 (by omega) (by omega) ⟨rfl, ?_⟩
      have e3 : ((i : Int) + 1) = ((i + 1 : Nat) : Int) := by push_cast; rfl
      rw [e3]
      refine hnext (i + 1) W' (by omega) ⟨rfl, by omega, ?_⟩
      intro d hd
      rw [take_snoc hli, List.mem_append, List.mem_singleton] at hd
      rcases hd with hd | rfl
      · exact h2 d hd
      · exact hok
    · have bad : ¬ okc c → R (.bool false) W := fun hn => r_false (fun hx => hn (hx.1 c (List.mem_of_getElem? hli))) h
      have dash : ∀ (hn : ¬ (97 ≤ c.toNat ∧ c.toNat ≤ 122)) (hn2 : ¬ (48 ≤ c.toNat ∧ c.toNat ≤ 57)) (J : Prop), (okc c → J) → RunW Try.prog (bin .neq 5 (.tmp 29) (.const (.int .u8 45)) (byteV c) (.int .u8 45)) W fun t => IfB t (R (.bool false) W) J := by
        intro hn hn2 J hJ
        refine w_neq (ifd (fun hx => bad ?_) fun hx => hJ (.inr (.inr (by omega))))
        rintro (hy | hy | hy)
        · exact hn hy
        · exact hn2 hy
        · exact hx (by rw [hy]; rfl)
      have digit : ∀ (hn : ¬ (97 ≤ c.toNat ∧ c.toNat ≤ 122)) (J : Prop), (okc c → J) → RunA Try.prog (bin .lss 5 (.tmp 21) (.const (.int .u8 48)) (byteV c) (.int .u8 48)) fun t => IfB t
          (RunW Try.prog (bin .neq 5 (.tmp 29) (.const (.int .u8 45)) (byteV c) (.int .u8 45)) W fun t => IfB t (R (.bool false) W) J)
          (RunA Try.prog (bin .gtr 5 (.tmp 24) (.const (.int .u8 57)) (byteV c) (.int .u8 57)) fun t => IfB t
            (RunW Try.prog (bin .neq 5 (.tmp 29) (.const (.int .u8 45)) (byteV c) (.int .u8 45)) W fun t => IfB t (R (.bool false) W) J) J) := by
        intro hn J hJ
        refine a_lss (ifd (fun h3 => dash hn (by omega) J hJ) fun h3 => ?_)
        exact a_gtr (ifd (fun h4 => dash hn (by omega) J hJ) fun h4 => hJ (.inr (.inl (by omega))))
      refine a_lss (ifd (fun h3 => digit (by omega) _ fun hok => ⟨rfl, rfl, hok⟩) fun h3 => ?_)
      exact a_gtr (ifd (fun h4 => digit (by omega) _ fun hok => ⟨rfl, rfl, hok⟩) fun h4 => ⟨rfl, rfl, .inl (by omega)⟩)
  · have : i = l.length := by omega
    subst this
    rw [List.take_length] at h2
    refine w_lenL Try.underlying9 ?_
    refine a_geq (ifd (fun hne => ?_) fun hne => r_false (fun hx => hne (by have := List.length_pos_iff.2 hx.2.1; omega)) h)
    refine w_lenL Try.underlying9 ?_
    refine a_leq (r_dec ?_ h)
    exact ⟨fun hx => ⟨h2, List.length_pos_iff.1 (by omega), by omega⟩, fun hx => by have := hx.2.2; omega⟩

end Go.Proofs.Ytknbnfpdcbpoeaa
