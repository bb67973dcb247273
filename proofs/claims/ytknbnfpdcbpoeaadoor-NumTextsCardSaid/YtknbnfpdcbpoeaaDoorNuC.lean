/-
  NUMBERS: Put, Var, ReadVar, Digits, first: what each answers.
-/
import Derived.Test.YtknbnfpdcbpoeaaDoorNuB
import Derived.Test.YtknbnfpdcbpoeaaDoorNuQ
import Derived.Test.YtknbnfpdcbpoeaaDoorNuShf
import Derived.Test.YtknbnfpdcbpoeaaDoorEzMk
import Derived.Test.YtknbnfpdcbpoeaaDoorTy
import Derived.Lib.SmallJoins
import Derived.Lib.AppendIntMem
namespace Go.Proofs.YtknbnfpdcbpoeaaDoor
open Go Go.Ez Go.RowKit Go.Lib
set_option linter.unusedSimpArgs false
set_option linter.unusedVariables false
abbrev PowTab (w : World) : Prop := TabIs Tryd.prog w "internal/strconv.uint64pow10" .u64 pow10Tab
theorem le_i64 {n : Nat} (h : n ≤ 9223372036854775807) : (n : Int) ≤ IntKind.i64.max := by simp only [IntKind.max, IntKind.bits, IntKind.signed]; simp; omega
theorem le_u8 {n : Nat} (h : n < 256) : (n : Int) ≤ IntKind.u8.max := by simp only [IntKind.max, IntKind.bits, IntKind.signed]; simp; omega
theorem callF_of {g : FuncId} {args : Array Value} {w : World} {Q : Ending → World → Prop} {R : Value → World → Prop} (h : Calls Tryd.prog g args w Q) (k : ∀ e w', Q e w' → ∃ v, e = .returned v ∧ R v w') : CallF Tryd.prog g args w R := Calls.mono h k
/-- what Put answers -/
def putR (n width : Int) : Txt × Nat := if width < 1 ∨ 6 < width ∨ n < 0 ∨ 2 ^ (8 * width.toNat) ≤ n.toNat then ([], 1) else (be n.toNat width.toNat, 0)
abbrev BO (l : Txt) : Value → As := Ow 5 1 l.length (bytesV l)
section
variable {w0 W W' : World} {l R : List As} {RR : Value → World → Prop} {t s : Txt} {c : UInt8} {b n : Nat} {v : Value}
theorem uput_spec {n width : Int} (h : St w0 G0 l W) (hn : n ≤ 9223372036854775807) (k : ∀ v W', Cel1 v → St w0 G0 (Ky v (BO (putR n width).1) :: l) W' → RR (.tuple #[v, nV .i64 (putR n width).2]) W') :
    CallF Tryd.prog 13 #[.int .i64 n, .int .i64 width] W RR := by
  unfold putR at k
  refine put_spec hn (fun hc => ?_) fun h1 h2 h3 h4 v W' ho hb => ?_
  · rw [if_pos hc] at k
    exact k _ _ ⟨rfl⟩ h.nilOw
  · have hc : ¬ (width < 1 ∨ 6 < width ∨ n < 0 ∨ 2 ^ (8 * width.toNat) ≤ n.toNat) := by omega
    rw [if_neg hc] at k
    have e : width.toNat = (be n.toNat width.toNat).length := (be_length _ _).symm
    rw [e] at ho
    rw [be_length] at ho
    refine k v W' (.of_own ho) (h.newOw (B := W.heap.size) hb ?_ (Nat.le_refl _))
    dsimp only
    rw [be_length]
    exact ho
theorem or128 (m : Nat) : m % 256 ||| 128 = m % 128 + 128 := by
  have : ∀ k : Fin 256, k.val ||| 128 = k.val % 128 + 128 := by decide +kernel
  have h := this ⟨m % 256, Nat.mod_lt _ (by decide)⟩
  simp only at h
  rw [h]; omega
/-- num.Var -/
theorem var_spec {n : Int} (h : St w0 G0 l W) (hn : n ≤ 9223372036854775807) (k : ∀ v W', Cel1 v → St w0 G0 (Ky v (BO (varR n).1) :: l) W' → RR (.tuple #[v, nV .i64 (varR n).2]) W') :
    CallF Tryd.prog 11 #[.int .i64 n] W RR := by
  refine sh11_calls ?_
  unfold sh11
  unfold varR at k
  refine a_lss (ifd (fun hc => ?_) fun hc1 => ?_)
  · rw [if_neg (by omega)] at k
    exact k _ _ ⟨rfl⟩ h.nilOw
  obtain ⟨n, rfl⟩ := Int.eq_ofNat_of_zero_le (Int.not_lt.1 hc1)
  refine a_shrN (m := 56) (by decide) ?_
  refine a_gtr (ifd (fun hc => ?_) fun hc2 => ?_)
  · rw [if_neg (by omega)] at k
    exact k _ _ ⟨rfl⟩ h.nilOw
  have hlt : n < 72057594037927936 := by omega
  rw [if_pos (by omega), Int.toNat_natCast] at k
  refine lpx (α := Nat × Nat × Txt × Value) (fun A => [nV .i64 A.2.1, A.2.2.2]) (fun A W' => A.2.2.1 ++ vrF (A.1 + 1) A.2.1 = vr n ∧ A.2.1 < 128 ^ (A.1 + 1) ∧ A.1 ≤ 7 ∧ A.2.2.1.length ≤ 8 ∧ Cel1 A.2.2.2 ∧ St w0 G0 (Ky A.2.2.2 (BO A.2.2.1) :: l) W') (fun A => A.1) (7, n, [], .slice none 0 0) (fun _ => rfl) rfl
    ⟨rfl, by simpa using hlt, Nat.le_refl _, by simp, ⟨rfl⟩, h.nilOw⟩ ?_
  clear h
  rintro next ⟨j, m, p, v⟩ W1 hnext ⟨h1, h2, h3, h5, o, h⟩
  simp only at h1 h2 h3 h5 o h
  refine app2 ?_
  have hpl := congrArg List.length h1
  have hvl : (vr n).length ≤ 8 := vrF_len
  rw [List.length_append] at hpl
  have hpos := vrF_pos (k := j) (n := m)
  have hm8 : 128 ^ (j + 1) ≤ 128 ^ 8 := Nat.pow_le_pow_right (by decide) (by omega)
  have hm56 : (128 : Nat) ^ 8 = 72057594037927936 := by decide
  refine a_geq (ifd (fun hc => ?_) fun hc => ?_)
  · have hs : ¬ m < 128 := by dsimp only at hc; omega
    have e1 : vrF (j + 1) m = UInt8.ofNat (m % 128 + 128) :: vrF j (m / 128) := by rw [vrF, if_neg hs]
    obtain ⟨j, rfl⟩ : ∃ j', j = j' + 1 := ⟨j - 1, by
      have : j ≠ 0 := fun e => by subst e; rw [Nat.zero_add, Nat.pow_one] at h2; omega
      omega⟩
    refine v_byte Tryd.underlying3 Tryd.underlying5 ?_
    refine a_orN (n := (UInt8.ofNat m).toNat) (m := 128) (le_u8 (UInt8.toNat_lt _)) (le_u8 (by decide)) ?_
    have e2 : (UInt8.ofNat m).toNat ||| 128 = (UInt8.ofNat (m % 128 + 128)).toNat := by
      rw [show (UInt8.ofNat (m % 128 + 128)).toNat = m % 128 + 128 from nu8 (by omega), UInt8.toNat_ofNat', show (2 : Nat) ^ 8 = 256 from rfl, or128]
    rw [e2]
    refine h.push (v := v) (x := byteV (UInt8.ofNat (m % 128 + 128))) (by unfold maxLen; omega) (by omega) fun v' W' o' h _ => ?_
    refine a_shrN (m := 7) (by decide) ?_
    refine hnext (j, m / 128, p ++ [UInt8.ofNat (m % 128 + 128)], v') W' (by simp only; omega) ⟨?_, ?_, by simp only; omega, ?_, o', ?_⟩
    · simp only
      rw [List.append_assoc, List.singleton_append, ← e1]; exact h1
    · simp only
      rw [Nat.div_lt_iff_lt_mul (by decide), ← Nat.pow_succ]; exact h2
    · simp only
      rw [List.length_append, List.length_singleton]
      rw [e1, List.length_cons] at hpl
      have := vrF_pos (k := j) (n := m / 128)
      omega
    · show St w0 G0 (Ky v' (Ow 5 1 (p ++ [UInt8.ofNat (m % 128 + 128)]).length (bytesV (p ++ [UInt8.ofNat (m % 128 + 128)]))) :: l) W'
      rw [List.length_append, bytesV_append]
      exact h
  · have hs : m < 128 := by dsimp only at hc; omega
    have e1 : vrF (j + 1) m = [UInt8.ofNat m] := by unfold vrF; rw [if_pos hs]
    refine v_byte Tryd.underlying3 Tryd.underlying5 ?_
    refine h.push (v := v) (x := byteV (UInt8.ofNat m)) (by unfold maxLen; omega) (by omega) fun v' W' o' h _ => ?_
    rw [e1] at h1
    refine k v' W' o' ?_
    show St w0 G0 (Ky v' (Ow 5 1 (vr n).length (bytesV (vr n))) :: l) W'
    rw [← h1, List.length_append, bytesV_append]
    exact h
/-- num.ReadVar -/
theorem readv_spec {a : Int} {l : Txt} (hv : By W v l) (hl : l.length ≤ 100000000000) (ha : a ≤ 9223372036854775807) (k : RR (.tuple #[nV .i64 (readV l a).1, nV .i64 (readV l a).2.1, nV .i64 (readV l a).2.2]) W) :
    CallF Tryd.prog 17 #[v, .int .i64 a] W RR := by
  refine sh17_calls ?_
  unfold sh17
  unfold readV at k
  refine a_lss (ifd (fun hc => by rw [if_pos (.inl hc)] at k; exact k) fun hc1 => ?_)
  refine w_lenS Tryd.underlying25 hv ?_
  refine a_gtr (ifd (fun hc => by rw [if_pos (.inr hc)] at k; exact k) fun hc2 => ?_)
  rw [if_neg (by omega)] at k
  obtain ⟨a, rfl⟩ := Int.eq_ofNat_of_zero_le (Int.not_lt.1 hc1)
  rw [Int.toNat_natCast] at k
  simp only [] at k
  refine x_cutRd (t := 25) (n := l.length) (k := a) hv (by omega) fun u hu => ?_
  rw [Nat.mul_one] at hu
  have hu' : By W u (l.drop a) := by
    have e : (bytesV l).drop a = bytesV (l.drop a) := by unfold bytesV; rw [List.map_drop]
    rw [e] at hu
    have e2 : l.length - a = (l.drop a).length := by rw [List.length_drop]
    rw [e2] at hu
    exact hu
  have hdl : (l.drop a).length = l.length - a := List.length_drop
  clear hu
  generalize l.drop a = r at *
  generalize hRES : rdv r 0 0 = RES at k
  refine w_lenS Tryd.underlying25 hu' ?_
  refine lpx (α := Nat × Nat) (fun A => [nV .i64 A.1, nV .i64 A.2]) (fun A W' => W' = W ∧ A.2 ≤ r.length ∧ A.2 ≤ 8 ∧ A.1 < 128 ^ A.2 ∧ (A.2 ≤ 7) ∧ rdv (r.drop A.2) A.2 A.1 = RES) (fun A => r.length - A.2) (0, 0) (fun _ => rfl) rfl ⟨rfl, Nat.zero_le _, by simp, by simp, by simp, hRES⟩ ?_
  rintro next ⟨n, i⟩ W1 hnext ⟨rfl, h1, h2, h3, h4, he⟩
  simp only at h1 h2 h3 h4 he
  refine app2 ?_
  refine a_lss (ifd (fun hc => ?_) fun hc => ?_)
  · have hi : i < r.length := by dsimp only at hc; omega
    refine w_at elB Tryd.isAgg5 hu' hi fun x hx => ?_
    obtain ⟨c, hc2, rfl⟩ := bytesV_get hx
    have hcl := c.toNat_lt
    have hd : r.drop i = c :: r.drop (i + 1) := by rw [List.drop_eq_getElem_cons hi]; rw [List.getElem?_eq_getElem hi] at hc2; cases hc2; rfl
    rw [hd] at he
    unfold rdv at he
    refine a_andN (n := c.toNat) (m := 127) (le_u8 hcl) (le_u8 (by decide)) ?_
    have e127 : c.toNat &&& 127 = c.toNat % 128 := Nat.and_two_pow_sub_one_eq_mod _ 7
    rw [e127]
    refine v_convN (n := c.toNat % 128) Tryd.underlying5 Tryd.underlying3 (le_i64 (by omega)) ?_
    refine a_mul64 (by omega) (by omega) ?_
    rw [show ((7 : Int) * (i : Int)) = ((7 * i : Nat) : Int) by push_cast; rfl]
    have hp : (2 : Nat) ^ (7 * i) = 128 ^ i := by rw [Nat.pow_mul]
    have hp7 : 128 ^ i ≤ 128 ^ 7 := Nat.pow_le_pow_right (by decide) h4
    have hp7' : (128 : Nat) ^ 7 = 562949953421312 := by decide
    have hmul : c.toNat % 128 * 128 ^ i ≤ 127 * 128 ^ i := Nat.mul_le_mul_right _ (by omega)
    refine a_shlN (by simp [IntKind.bits]; omega) (le_i64 (by rw [hp]; omega)) ?_
    rw [hp]
    refine a_orN (le_i64 (by omega)) (le_i64 (by omega)) ?_
    have eor : n ||| c.toNat % 128 * 128 ^ i = n + c.toNat % 128 * 128 ^ i := by
      have := Nat.shiftLeft_add_eq_or_of_lt (i := 7 * i) (b := n) (by rw [hp]; exact h3) (c.toNat % 128)
      rw [Nat.shiftLeft_eq, hp] at this
      rw [Nat.or_comm, ← this, Nat.add_comm]
    rw [eor]
    have hs : n + c.toNat % 128 * 128 ^ i < 128 ^ (i + 1) := by rw [Nat.pow_succ]; omega
    generalize n + c.toNat % 128 * 128 ^ i = N at *
    have good : c.toNat < 128 ∧ (0 < c.toNat ∨ i = 0) → RR (.tuple #[nV .i64 N, .int .i64 ((a : Int) + (i : Int) + 1), .int .i64 0]) W1 := fun hg => by
      rw [if_pos hg] at he
      rw [← he] at k
      dsimp only at k
      rw [if_pos rfl] at k
      have : ((a : Int) + (i : Int) + 1) = ((a + (i + 1) : Nat) : Int) := by omega
      rw [this]
      exact k
    have add3 : ∀ {X Y X' Y' : Operand} {K : Value → Prop}, K (.int .i64 ((a : Int) + (i : Int) + 1)) → RunA Tryd.prog (bin .add 3 X Y (.int .i64 (a : Int)) (nV .i64 i)) fun v => RunA Tryd.prog (bin .add 3 X' Y' v (.int .i64 1)) K := fun hk =>
      a_add64 (by omega) (by omega) (a_add64 (by omega) (by omega) hk)
    have fourE : ¬ (c.toNat < 128 ∧ (0 < c.toNat ∨ i = 0)) → (c.toNat = 0 ∨ i = 7) → RR (.tuple #[.int .i64 0, .int .i64 0, .int .i64 4]) W1 := fun hg h5 => by
      rw [if_neg hg, if_pos h5] at he
      rw [← he] at k
      exact k
    refine jni (fun vs W' => vs = [.int .i64 (a : Int), nV .i64 N, u, nV .i64 r.length, nV .i64 i] ∧ ¬ (c.toNat < 128 ∧ (0 < c.toNat ∨ i = 0)) ∧ ¬ (c.toNat = 0 ∨ i = 7) ∧ W' = W1) ?_ ?_
    · rintro vs W' _ ⟨rfl, g1, g2, rfl⟩
      refine app5 ?_
      rw [if_neg g1, if_neg g2] at he
      refine a_add64 (by omega) (by omega) ⟨rfl, rfl, rfl, ?_⟩
      rw [show ((i : Int) + 1) = ((i + 1 : Nat) : Int) by push_cast; rfl]
      exact hnext (N, i + 1) _ (by simp only; omega) ⟨rfl, by simp only; omega, by simp only; omega, hs, by simp only; omega, he⟩
    · have tl : ¬ (c.toNat < 128 ∧ (0 < c.toNat ∨ i = 0)) → ∀ {K : Prop} {X Y X' Y' : Operand} {tt : TypeId}, (¬ (c.toNat < 128 ∧ (0 < c.toNat ∨ i = 0)) → ¬ (c.toNat = 0 ∨ i = 7) → K) →
          RunW Tryd.prog (bin .eql tt X Y (byteV c) (.int .u8 0)) W1 fun b => IfB b (RR (.tuple #[.int .i64 0, .int .i64 0, .int .i64 4]) W1) (RunW Tryd.prog (bin .eql 3 X' Y' (nV .i64 i) (.int .i64 7)) W1 fun b => IfB b (RR (.tuple #[.int .i64 0, .int .i64 0, .int .i64 4]) W1) K) := fun hg K X Y X' Y' tt hk => by
        refine w_eql (ifd (fun h5 => fourE hg (.inl (by omega))) fun h5 => ?_)
        refine w_eql (ifd (fun h6 => fourE hg (.inr (by omega))) fun h6 => ?_)
        exact hk hg (by omega)
      refine a_lss (ifd (fun g1 => ?_) fun g1 => tl (by omega) fun q1 q2 => ⟨rfl, q1, q2, rfl⟩)
      refine a_gtr (ifd (fun g2 => add3 (good ⟨by omega, .inl (by omega)⟩)) fun g2 => ?_)
      refine w_eql (ifd (fun g3 => add3 (good ⟨by omega, .inr (by omega)⟩)) fun g3 => tl (by omega) fun q1 q2 => ⟨rfl, q1, q2, rfl⟩)
  · have hi : i = r.length := by dsimp only at hc; omega
    rw [hi, List.drop_length] at he
    unfold rdv at he
    rw [← he] at k
    exact k
theorem powTab_at {l : List As} (hT : PowTab w0) (h : St w0 G0 l W) : PowTab W := Go.Joins.tab_stays (g := (Tryd.prog.globalNamed "internal/strconv.uint64pow10").getD 0) (by kernel_rfl) hT h.low (Nat.le_refl _)
/-- num.Digits -/
theorem digits_spec {n width : Int} (hT : PowTab w0) (h : St w0 G0 l W) (hn : n ≤ 9223372036854775807) (k : ∀ W', St w0 G0 l W' → RR (.tuple #[strV (digR n width).1, .bool (digR n width).2]) W') :
    CallF Tryd.prog 10 #[.int .i64 n, .int .i64 width] W RR := by
  refine sh10_calls ?_
  unfold sh10
  unfold digR at k
  refine a_lss (ifd (fun hc => by rw [if_pos (.inl hc)] at k; exact k W h) fun hc1 => ?_)
  refine a_lss (ifd (fun hc => by rw [if_pos (.inr (.inl hc))] at k; exact k W h) fun hc2 => ?_)
  refine a_gtr (ifd (fun hc => by rw [if_pos (.inr (.inr (.inl hc)))] at k; exact k W h) fun hc3 => ?_)
  obtain ⟨n, rfl⟩ := Int.eq_ofNat_of_zero_le (Int.not_lt.1 hc1)
  obtain ⟨m, rfl⟩ := Int.eq_ofNat_of_zero_le (show 0 ≤ width by omega)
  rw [Int.toNat_natCast, Int.toNat_natCast] at k
  refine callF_of (Any.strconv_Itoa Tryd.laysM171 (n : Int) (by omega) hn W (powTab_at hT h)) fun e W' hq => ?_
  obtain ⟨he, q, os, rfl⟩ := hq
  rw [itoa_nonneg] at he
  refine ⟨_, he, ?_⟩
  replace h := h.ext (Go.Lib.below_grow W.heap.size W (Nat.le_refl _) q os)
  generalize Go.Sort.grow (W.drewN q) os = W at *
  refine x_len (a_gtr (ifd (fun hc => by rw [if_pos (.inr (.inr (.inr hc)))] at k; exact k W h) fun hc4 => ?_))
  rw [if_neg (by omega)] at k
  have hle : (decDigits n).length ≤ m := by omega
  refine x_len (a_sub64 (by omega) (by omega) ?_)
  rw [show ((m : Int) - ((decDigits n).length : Int)) = ((m - (decDigits n).length : Nat) : Int) by omega]
  refine callF_of (Any.strings_Repeat Tryd.lays105 ⟨⟨by kernel_rfl, by kernel_rfl⟩, Tryd.underlying5, Tryd.isAgg5, Tryd.sizeOf5, Tryd.zeroValue5, by kernel_rfl, by kernel_rfl, by kernel_rfl, by decide⟩ ⟨#[48]⟩ (m - (decDigits n).length) W (by omega) (by show 1 * _ ≤ _; omega)) fun e W' hq => ?_
  refine ⟨_, hq.1, ?_⟩
  replace h := h.ext hq.2
  obtain ⟨p1, p2⟩ := pad_dgs hle
  have hrl : (repeatL [48] (m - (decDigits n).length)).length = m - (decDigits n).length := by rw [repeatL_length, List.length_singleton, Nat.mul_one]
  refine a_cat (l := repeatL [48] (m - (decDigits n).length)) (by rw [hrl]; omega) ?_
  rw [p1]
  exact k W' h
theorem var_300 : varR 300 = ([172, 2], 0) := by decide +kernel
theorem put_258 : putR 258 2 = ([1, 2], 0) := by decide +kernel
theorem dig_7 : digR 7 3 = ([48, 48, 55], true) := by
  unfold digR
  have e : decDigits (7 : Int).toNat = [55] := decDigits_one (i := 7) (by decide)
  rw [e]
  decide +kernel
/-- hbllaw1.first -/
theorem first1_spec (hT : PowTab w0) (h : St w0 G0 l W) (k : ∀ W', St w0 G0 l W' → RR (.bool true) W') : CallF Tryd.prog 9 #[] W RR := by
  refine sh9_calls ?_
  unfold sh9
  refine uput_spec (n := 258) (width := 2) h (by decide) fun u W ou h => ?_
  rw [put_258] at h ⊢
  refine a_ext0 (a_ext1 ?_)
  refine var_spec (n := 300) h (by decide) fun v W ov h => ?_
  rw [var_300] at h ⊢
  refine a_ext0 (a_ext1 ?_)
  refine digits_spec (n := 7) (width := 3) hT h (by decide) fun W h => ?_
  rw [dig_7]
  refine a_ext0 (a_ext1 ?_)
  refine w_eql (ifd_pos rfl ?_)
  refine x_str (l := [1, 2]) (h.osl (v := u)) ?_
  refine w_eqlL (b := [1, 2]) (ifd_pos rfl ?_)
  refine w_eql (ifd_pos rfl ?_)
  refine x_str (l := [172, 2]) (h.osl (v := v)) ?_
  refine w_eqlL (b := [172, 2]) (ifd_pos rfl ?_)
  refine ift ?_
  refine w_eqlL (b := [48, 48, 55]) ?_
  exact k W h.to
end
end Go.Proofs.YtknbnfpdcbpoeaaDoor
