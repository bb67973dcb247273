/-
  TOKENS: digits of 16 read, by the document: what each function answers.
-/
import Derived.Test.YtknbnfpdcbpoeaaTokI
namespace Go.Proofs.Ytknbnfpdcbpoeaa
open Go Go.Ez Go.RowKit Go.Lib
set_option linter.unusedSimpArgs false
set_option linter.unusedVariables false

/-- a digit of 16, great or small; -1: it is none -/
def digU (c : UInt8) : Int := if 48 ≤ c.toNat ∧ c.toNat ≤ 57 then c.toNat - 48 else if 97 ≤ c.toNat ∧ c.toNat ≤ 102 then c.toNat - 87 else if 65 ≤ c.toNat ∧ c.toNat ≤ 70 then c.toNat - 55 else -1
theorem digU_lt (c : UInt8) : digU c < 16 := by
  unfold digU
  split
  · omega
  · split
    · omega
    · split <;> omega
theorem digU_dig : ∀ n, n < 16 → digU (dig n) = n := by decide +kernel

/-- hblref1.Digit -/
theorem digit_spec {c : UInt8} {w : World} {R : Value → World → Prop} (h : R (.int .i64 (digU c)) w) : CallF Try.prog 55 #[byteV c] w R := by
  refine sh55_calls ?_
  unfold sh55
  have hc8 := c.toNat_lt
  have sub : ∀ (X Y : Operand) (d : Nat) (K : Value → Prop), d ≤ c.toNat → K (nV .u8 (c.toNat - d)) → RunA Try.prog (bin .sub 5 X Y (byteV c) (.int .u8 d)) K := fun X Y d K hd hK => a_sub (by
    have : IntKind.u8.wrap ((c.toNat : Int) - (d : Int)) = ((c.toNat - d : Nat) : Int) := by
      have e : ((c.toNat : Int) - (d : Int)) = ((c.toNat - d : Nat) : Int) := by omega
      rw [e]
      exact wrap_nat (k := .u8) (by simp only [IntKind.max, IntKind.bits, IntKind.signed]; simp; omega)
    rw [this]; exact hK)
  have upper : ∀ (J : FnN 0), ¬ (48 ≤ c.toNat ∧ c.toNat ≤ 57) → ¬ (97 ≤ c.toNat ∧ c.toNat ≤ 102) → (digU c = -1 → J w) → jn 0 (fun w => J w) fun j => RunA Try.prog (bin .geq 5 (.tmp 25) (.const (.int .u8 65)) (byteV c) (.int .u8 65)) fun t => IfB t
      (RunA Try.prog (bin .leq 5 (.tmp 28) (.const (.int .u8 70)) (byteV c) (.int .u8 70)) fun t => IfB t
        (RunA Try.prog (bin .sub 5 (.tmp 31) (.const (.int .u8 65)) (byteV c) (.int .u8 65)) fun t => RunV Try.prog (convert 5 3 t) w fun t w => RunA Try.prog (bin .add 3 (.tmp 33) (.const (.int .i64 10)) t (.int .i64 10)) fun t => R t w) (j w)) (j w) := by
    intro J hn1 hn2 hJ
    refine jni (fun _ W => W = w ∧ digU c = -1) (by rintro vs W hvs ⟨rfl, hd⟩; cases vs with | nil => exact hJ hd | cons _ _ => simp at hvs) ?_
    refine a_geq (ifd (fun h1 => ?_) fun h1 => ⟨rfl, by unfold digU; rw [if_neg hn1, if_neg hn2, if_neg (by omega)]⟩)
    refine a_leq (ifd (fun h2 => ?_) fun h2 => ⟨rfl, by unfold digU; rw [if_neg hn1, if_neg hn2, if_neg (by omega)]⟩)
    refine sub _ _ 65 _ (by omega) ?_
    refine v_convN Try.underlying5 Try.underlying3 (by simp only [IntKind.max, IntKind.bits, IntKind.signed]; simp; omega) ?_
    refine a_add64 (by omega) (by omega) ?_
    have e : (((c.toNat - 65 : Nat) : Int) + 10) = digU c := by unfold digU; rw [if_neg hn1, if_neg hn2, if_pos (by omega)]; omega
    rw [e]; exact h
  have lower : ∀ (J : FnN 0), ¬ (48 ≤ c.toNat ∧ c.toNat ≤ 57) → (digU c = -1 → J w) → jn 0 (fun w => J w) fun j6 => RunA Try.prog (bin .geq 5 (.tmp 14) (.const (.int .u8 97)) (byteV c) (.int .u8 97)) fun t => IfB t
      (RunA Try.prog (bin .leq 5 (.tmp 17) (.const (.int .u8 102)) (byteV c) (.int .u8 102)) fun t => IfB t
        (RunA Try.prog (bin .sub 5 (.tmp 20) (.const (.int .u8 97)) (byteV c) (.int .u8 97)) fun t => RunV Try.prog (convert 5 3 t) w fun t w => RunA Try.prog (bin .add 3 (.tmp 22) (.const (.int .i64 10)) t (.int .i64 10)) fun t => R t w)
        (jn 0 (fun w => j6 w) fun j => RunA Try.prog (bin .geq 5 (.tmp 25) (.const (.int .u8 65)) (byteV c) (.int .u8 65)) fun t => IfB t
          (RunA Try.prog (bin .leq 5 (.tmp 28) (.const (.int .u8 70)) (byteV c) (.int .u8 70)) fun t => IfB t
            (RunA Try.prog (bin .sub 5 (.tmp 31) (.const (.int .u8 65)) (byteV c) (.int .u8 65)) fun t => RunV Try.prog (convert 5 3 t) w fun t w => RunA Try.prog (bin .add 3 (.tmp 33) (.const (.int .i64 10)) t (.int .i64 10)) fun t => R t w) (j w)) (j w)))
      (jn 0 (fun w => j6 w) fun j => RunA Try.prog (bin .geq 5 (.tmp 25) (.const (.int .u8 65)) (byteV c) (.int .u8 65)) fun t => IfB t
          (RunA Try.prog (bin .leq 5 (.tmp 28) (.const (.int .u8 70)) (byteV c) (.int .u8 70)) fun t => IfB t
            (RunA Try.prog (bin .sub 5 (.tmp 31) (.const (.int .u8 65)) (byteV c) (.int .u8 65)) fun t => RunV Try.prog (convert 5 3 t) w fun t w => RunA Try.prog (bin .add 3 (.tmp 33) (.const (.int .i64 10)) t (.int .i64 10)) fun t => R t w) (j w)) (j w)) := by
    intro J hn1 hJ
    refine jni (fun _ W => W = w ∧ digU c = -1) (by rintro vs W hvs ⟨rfl, hd⟩; cases vs with | nil => exact hJ hd | cons _ _ => simp at hvs) ?_
    refine a_geq (ifd (fun h1 => ?_) fun h1 => upper _ hn1 (by omega) fun hd => ⟨rfl, hd⟩)
    refine a_leq (ifd (fun h2 => ?_) fun h2 => upper _ hn1 (by omega) fun hd => ⟨rfl, hd⟩)
    refine sub _ _ 97 _ (by omega) ?_
    refine v_convN Try.underlying5 Try.underlying3 (by simp only [IntKind.max, IntKind.bits, IntKind.signed]; simp; omega) ?_
    refine a_add64 (by omega) (by omega) ?_
    have e : (((c.toNat - 97 : Nat) : Int) + 10) = digU c := by unfold digU; rw [if_neg hn1, if_pos (by omega)]; omega
    rw [e]; exact h
  refine jni (fun _ W => W = w ∧ digU c = -1) (by
    rintro vs W hvs ⟨rfl, hd⟩
    cases vs with
    | nil => rw [hd] at h; exact h
    | cons _ _ => simp at hvs) ?_
  refine a_geq (ifd (fun h1 => ?_) fun h1 => lower _ (by omega) fun hd => ⟨rfl, hd⟩)
  refine a_leq (ifd (fun h2 => ?_) fun h2 => lower _ (by omega) fun hd => ⟨rfl, hd⟩)
  refine sub _ _ 48 _ (by omega) ?_
  refine v_convN Try.underlying5 Try.underlying3 (by simp only [IntKind.max, IntKind.bits, IntKind.signed]; simp; omega) ?_
  have e : (((c.toNat - 48 : Nat) : Int)) = digU c := by unfold digU; rw [if_pos (by omega)]; omega
  show R (.int .i64 ((c.toNat - 48 : Nat) : Int)) w
  rw [e]; exact h

/-- hblref1.Unhex -/
theorem unhex1_spec {s : List UInt8} {w : World} {R : Value → World → Prop} (hl : s.length ≤ 1000000000)
    (h0 : (∀ m, s ≠ hexL m) → ∀ w', Below w.heap.size w w' → R (.tuple #[.slice none 0 0, .bool false]) w')
    (h1 : ∀ m, s = hexL m → ∀ v' w', w'.ownsRow w.heap.size 5 1 v' m.length (bytesV m) → Below w.heap.size w w' → R (.tuple #[v', .bool true]) w') : CallF Try.prog 45 #[strV s] w R := by
  refine sh45_calls ?_
  unfold sh45
  refine lpx (α := Value × List UInt8) (fun x => [x.1, nV .i64 (2 * x.2.length)]) (fun x W => W.ownsRow w.heap.size 5 1 x.1 x.2.length (bytesV x.2) ∧ Below w.heap.size w W ∧ 2 * x.2.length ≤ s.length ∧ (∀ m, s = hexL m → x.2 = m.take x.2.length)) (fun x => s.length - 2 * x.2.length) (.slice none 0 0, []) (fun _ => rfl) rfl ⟨own_nil, Below.refl _ _, by simp, by simp⟩ ?_
  rintro next ⟨v, acc⟩ W hnext ⟨g1, g2, g3, g4⟩
  dsimp only at g1 g2 g3 g4 ⊢
  generalize hi : 2 * acc.length = i at *
  refine app2 ?_
  refine a_add64 (by omega) (by omega) ?_
  refine w_lenL Try.underlying9 ?_
  have e1 : ((i : Int) + 1) = ((i + 1 : Nat) : Int) := by push_cast; rfl
  rw [e1]
  refine a_lss (ifd (fun hc => ?_) fun hc => ?_)
  · have hil : i < s.length := by omega
    have hil1 : i + 1 < s.length := by omega
    have hli := List.getElem?_eq_getElem hil
    have hli1 := List.getElem?_eq_getElem hil1
    generalize s[i] = a at hli
    generalize s[i + 1] = b at hli1
    refine ⟨fun W' => Below W.heap.size W W', (Below.refl _ _).drew, ?_⟩
    refine a_indexL Try.underlying9 hli ?_
    refine a_add64 (by omega) (by omega) ?_
    rw [e1]
    refine a_indexL Try.underlying9 hli1 ?_
    refine digit_spec ?_
    refine digit_spec ?_
    -- if the text is digits of bytes, these two are a byte's
    have two : ∀ m, s = hexL m → ∃ c : UInt8, m[acc.length]? = some c ∧ digU a = ((c.toNat / 16 : Nat) : Int) ∧ digU b = ((c.toNat % 16 : Nat) : Int) := by
      rintro m rfl
      have hj : acc.length < m.length := by rw [hexL_length] at hil; omega
      have hm := List.getElem?_eq_getElem hj
      have := hex_at hm
      have hc := m[acc.length].toNat_lt
      rw [hi] at this
      rw [this.1] at hli
      rw [this.2] at hli1
      cases hli
      cases hli1
      exact ⟨_, hm, digU_dig _ (by omega), digU_dig _ (by omega)⟩
    refine a_lss (ifd (fun hn => h0 (fun m hm => by obtain ⟨c, _, ha, _⟩ := two m hm; omega) _ g2.drew) fun hn1 => ?_)
    refine a_lss (ifd (fun hn => h0 (fun m hm => by obtain ⟨c, _, _, hb⟩ := two m hm; omega) _ g2.drew) fun hn2 => ?_)
    have ha1 := digU_lt a
    have hb1 := digU_lt b
    obtain ⟨x, hx⟩ := Int.eq_ofNat_of_zero_le (Int.not_lt.1 hn1)
    obtain ⟨y, hy⟩ := Int.eq_ofNat_of_zero_le (Int.not_lt.1 hn2)
    rw [hx] at ha1 two
    rw [hy] at hb1 two
    rw [hx, hy]
    refine a_shlN (n := x) (m := 4) (by decide) (by simp only [IntKind.max, IntKind.bits, IntKind.signed]; simp; omega) ?_
    refine a_orN (m := y) (by simp only [IntKind.max, IntKind.bits, IntKind.signed]; simp; omega) (by simp only [IntKind.max, IntKind.bits, IntKind.signed]; simp; omega) ?_
    rw [shl_or4 (by omega)]
    have g1d := g1.drew
    have g2d := g2.drew
    generalize W.drew = Wd at *
    refine v_byte Try.underlying3 Try.underlying5 ?_
    refine v_push elB g1d rfl (by unfold maxLen; omega) (by omega) g2d.size fun v' W' k1 k2 _ => ?_
    have e : bytesV acc ++ [byteV (UInt8.ofNat (x * 16 + y))] = bytesV (acc ++ [UInt8.ofNat (x * 16 + y)]) := by rw [bytesV_append]; rfl
    rw [e] at k1
    have hlen : (acc ++ [UInt8.ofNat (x * 16 + y)]).length = acc.length + 1 := by simp
    refine a_add64 (by omega) (by omega) ⟨rfl, ?_⟩
    have e2 : ((i : Int) + 2) = ((2 * (acc ++ [UInt8.ofNat (x * 16 + y)]).length : Nat) : Int) := by rw [hlen]; push_cast; omega
    rw [e2]
    refine hnext (v', acc ++ [UInt8.ofNat (x * 16 + y)]) W' (by dsimp only; rw [hlen]; omega) ⟨by dsimp only; rw [hlen]; exact k1, g2d.grown k2 g2d.size (own_base g1d), by dsimp only; rw [hlen]; omega, ?_⟩
    dsimp only
    intro m hm
    obtain ⟨c, hcm, hca, hcb⟩ := two m hm
    have hc : UInt8.ofNat (x * 16 + y) = c := by
      have : x * 16 + y = c.toNat := by omega
      rw [this]; simp
    rw [hlen, take_snoc hcm, ← g4 m hm, hc]
  · refine hex1_spec (Sl.of_own g1) (by omega) fun w2 m2 => ?_
    have c2 := g2.trans (m2.mono g2.size)
    refine w_neqL (ifd (fun hne => h0 (fun m hm => hne ?_) w2 c2) fun he => ?_)
    · have h3 := g4 m hm
      have h4 : acc.length = m.length := by
        have := congrArg List.length hm
        rw [hexL_length] at this
        have h5 := congrArg List.length h3
        rw [List.length_take] at h5
        omega
      rw [h4, List.take_length] at h3
      rw [h3, hm]
    · have he' := Classical.not_not.1 he
      exact h1 acc he'.symm v w2 (ownsRow_ext g1 m2) c2

end Go.Proofs.Ytknbnfpdcbpoeaa
