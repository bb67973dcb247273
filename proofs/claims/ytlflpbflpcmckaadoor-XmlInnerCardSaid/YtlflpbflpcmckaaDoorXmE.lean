/-
  XML: strconv.ParseUint at few digits of base 10 or 16: what it answers.
-/
import Derived.Test.YtlflpbflpcmckaaDoorXmD
import Derived.Test.YtlflpbflpcmckaaDoorEzBy
import Derived.Test.YtlflpbflpcmckaaDoorXmT
namespace Go.Ez.XRd
open Go Go.Ez
/-- a digit's value, whatever the base -/
def dig0 (c : UInt8) : Option Nat := if 48 ≤ c.toNat ∧ c.toNat ≤ 57 then some (c.toNat - 48) else if 97 ≤ c.toNat ∧ c.toNat ≤ 122 then some (c.toNat - 87) else if 65 ≤ c.toNat ∧ c.toNat ≤ 90 then some (c.toNat - 55) else none
theorem digB_eq (B : Nat) (c : UInt8) : digB B c = match dig0 c with | some d => if d < B then some d else none | none => none := rfl
def parR (B : Nat) (s : Txt) : Nat × Bool := if s ≠ [] ∧ s.all (fun c => (digB B c).isSome) = true then (numB B s 0, true) else (0, false)
theorem low_some {c : UInt8} (h0 : ¬ (48 ≤ c.toNat ∧ c.toNat ≤ 57)) (h1 : 97 ≤ c.toNat ||| 32) (h2 : c.toNat ||| 32 ≤ 122) : dig0 c = some ((c.toNat ||| 32) - 87) := by
  have h : ∀ x : Fin 256, ¬ (48 ≤ (UInt8.ofNat x.val).toNat ∧ (UInt8.ofNat x.val).toNat ≤ 57) → 97 ≤ (UInt8.ofNat x.val).toNat ||| 32 → (UInt8.ofNat x.val).toNat ||| 32 ≤ 122 → dig0 (UInt8.ofNat x.val) = some (((UInt8.ofNat x.val).toNat ||| 32) - 87) := by decide +kernel
  have := h ⟨c.toNat, c.toNat_lt⟩
  simp only [UInt8.ofNat_toNat] at this
  exact this h0 h1 h2
theorem low_none {c : UInt8} (h0 : ¬ (48 ≤ c.toNat ∧ c.toNat ≤ 57)) (h1 : ¬ (97 ≤ c.toNat ||| 32 ∧ c.toNat ||| 32 ≤ 122)) : dig0 c = none := by
  have h : ∀ x : Fin 256, ¬ (48 ≤ (UInt8.ofNat x.val).toNat ∧ (UInt8.ofNat x.val).toNat ≤ 57) → ¬ (97 ≤ (UInt8.ofNat x.val).toNat ||| 32 ∧ (UInt8.ofNat x.val).toNat ||| 32 ≤ 122) → dig0 (UInt8.ofNat x.val) = none := by decide +kernel
  have := h ⟨c.toNat, c.toNat_lt⟩
  simp only [UInt8.ofNat_toNat] at this
  exact this h0 h1
theorem or32_le {n : Nat} (h : n < 256) : n ||| 32 < 256 := Nat.or_lt_two_pow (n := 8) h (by decide)
theorem numB_snoc (B : Nat) : ∀ (s : Txt) (n : Nat) (c : UInt8), numB B (s ++ [c]) n = numB B s n * B + (digB B c).getD 0
  | [], n, c => rfl
  | x :: s, n, c => by
    rw [List.cons_append]
    unfold numB
    exact numB_snoc B s _ c
theorem numB_lt {B : Nat} (hB : B ≤ 16) : ∀ {s : Txt} {n : Nat}, (∀ x ∈ s, (digB B x).isSome = true) → numB B s n < (n + 1) * 16 ^ s.length
  | [], n, _ => by show n < (n + 1) * 1; omega
  | c :: s, n, h => by
    have hd : (digB B c).getD 0 < 16 := by
      have := h c (by simp)
      rw [digB_eq] at this ⊢
      cases hx : dig0 c with
      | none => simp
      | some d =>
        simp only
        split
        · show d < 16; omega
        · decide
    have ih := numB_lt hB (s := s) (n := n * B + (digB B c).getD 0) fun x hx => h x (by simp [hx])
    show numB B s (n * B + (digB B c).getD 0) < _
    refine Nat.lt_of_lt_of_le ih ?_
    have hnB : n * B ≤ n * 16 := Nat.mul_le_mul_left _ hB
    rw [List.length_cons, Nat.pow_succ, Nat.mul_comm (16 ^ s.length) 16, ← Nat.mul_assoc]
    exact Nat.mul_le_mul_right _ (by omega)
theorem parR_bad {B : Nat} {s : Txt} {c : UInt8} {i : Nat} (h : s[i]? = some c) (hc : digB B c = none) : parR B s = (0, false) := by
  unfold parR
  rw [if_neg]
  rintro ⟨_, h1⟩
  have := List.all_eq_true.1 h1 c (List.mem_of_getElem? h)
  rw [hc] at this
  cases this
end Go.Ez.XRd
namespace Go.Proofs.YtlflpbflpcmckaaDoor
open Go Go.Ez Go.RowKit Go.Lib
set_option linter.unusedSimpArgs false
set_option linter.unusedVariables false
theorem wrapU64 {x : Int} (h0 : 0 ≤ x) (h1 : x < 18446744073709551616) : IntKind.u64.wrap x = x := by
  simp only [IntKind.wrap, IntKind.bits, IntKind.signed]
  simp
  omega
theorem wrapU8 {x : Int} (h0 : 0 ≤ x) (h1 : x < 256) : IntKind.u8.wrap x = x := by
  simp only [IntKind.wrap, IntKind.bits, IntKind.signed]
  simp
  omega
theorem le_u64' {n : Nat} (h : n ≤ 9223372036854775807) : (n : Int) ≤ IntKind.u64.max := by simp only [IntKind.max, IntKind.bits, IntKind.signed]; simp; omega
section
variable {w0 W W' : World} {G : Nat → Prop} {l R : List As} {RR : Value → World → Prop} {t s p : Txt} {c : UInt8} {x : UInt8} {B bits n : Nat}
theorem lower_spec (k : RR (nV .u8 (c.toNat ||| 32)) W) : CallF Tryd.prog 83 #[byteV c] W RR := by
  refine sh83_calls ?_
  unfold sh83
  have hc := c.toNat_lt
  exact a_orN (n := c.toNat) (m := 32) (le_u8 hc) (le_u8 (by decide)) k
theorem take_snoc {m : Txt} {i : Nat} {x : UInt8} (h : m[i]? = some x) : m.take (i + 1) = m.take i ++ [x] := by rw [List.take_add_one, h]; rfl
theorem bytesV_at {m : Txt} {i : Nat} {x : UInt8} (h : m[i]? = some x) : (bytesV m)[i]? = some (byteV x) := by unfold bytesV; rw [List.getElem?_map, h]; rfl
/-- how an answer is told -/
def parV (x : Nat × Bool) : Value := .tuple #[nV .u64 x.1, if x.2 then .nilIface else .iface 126 (.int .i64 2)]
theorem iparse_spec (hB : B = 10 ∨ B = 16) (hb : (bits = 8 ∧ s.length ≤ 1) ∨ (bits = 64 ∧ s.length ≤ 7)) (h : St w0 G l W) (k : ∀ W', St w0 G l W' → RR (parV (XRd.parR B s)) W') : CallF Tryd.prog 81 #[strV s, nV .i64 B, nV .i64 bits] W RR := by
  refine sh81_calls ?_
  unfold sh81
  have err : XRd.parR B s = (0, false) → ∀ W, St w0 G l W → RunV Tryd.prog (Instr.makeInterface 126 (.int .i64 2)) W fun t w => RR (.tuple #[(.int .u64 0), t]) w := fun e W h => by
    rw [e] at k
    exact RunV.of (run_makeInterface W 126 _ (by kernel_rfl)) (k W h)
  refine w_eqlL (ifd (fun hs => ?_) fun hs => ?_)
  · exact err (by unfold XRd.parR; rw [if_neg (fun h => h.1 hs)]) W h
  refine w_eql ?_
  refine jni (fun vs W' => vs = [strV s, nV .i64 B, nV .i64 bits, .bool (decide ((B : Int) = 0)), strV s] ∧ W' = W) ?_ ?_
  rotate_left
  · refine a_leq (ifd_pos (by omega) ?_)
    refine a_leq (ifd_pos (by omega) ⟨rfl, rfl⟩)
  rintro vs W1 _ ⟨rfl, rfl⟩
  refine app5 ?_
  rw [decide_eq_false (show ¬ ((B : Int) = 0) by omega)]
  refine jni (fun vs W' => vs = [strV s, nV .i64 B, nV .i64 bits, .bool false, strV s] ∧ W' = W1) ?_ ?_
  rotate_left
  · refine w_eql (ifd_neg (by omega) ?_)
    refine a_lss (ifd_neg (by omega) ?_)
    refine a_gtr (ifd_neg (by omega) ⟨rfl, rfl⟩)
  rintro vs W1 _ ⟨rfl, rfl⟩
  refine app5 ?_
  refine jni (fun vs W' => ∃ cut : Int, vs = [strV s, nV .i64 B, nV .i64 bits, .bool false, strV s, .int .u64 cut] ∧ 1000000000000 ≤ cut ∧ W' = W1) ?_ ?_
  rotate_left
  · refine w_eql (ifd (fun h10 => ⟨_, rfl, by decide, rfl⟩) fun h10 => ?_)
    refine jni (fun vs W' => ∃ cut : Int, vs = [strV s, nV .i64 B, nV .i64 bits, .bool false, strV s, .int .u64 cut] ∧ 1000000000000 ≤ cut ∧ W' = W1) (by rintro vs W' _ ⟨cut, rfl, h1, h2⟩; exact app6 ⟨cut, rfl, h1, h2⟩) ?_
    refine w_eql (ifd (fun h16 => ⟨_, rfl, by decide, rfl⟩) fun h16 => ?_)
    omega
  rintro vs W1 _ ⟨cut, rfl, hcut, rfl⟩
  refine app6 ?_
  obtain ⟨mx, hmx, hmx1⟩ : ∃ mx : Int, (∀ K : Value → Prop, K (.int .u64 mx) → RunA Tryd.prog (bin .shl 122 (.const (.int .u64 1)) (.tmp 95) (.int .u64 1) (nV .u64 bits)) fun t96 => RunA Tryd.prog (bin .sub 122 (.tmp 96) (.const (.int .u64 1)) t96 (.int .u64 1)) K) ∧ ((bits = 8 ∧ mx = 255) ∨ (bits = 64 ∧ mx = 18446744073709551615)) := by
    rcases hb with ⟨rfl, _⟩ | ⟨rfl, _⟩
    · exact ⟨255, fun K hK => ⟨.int .u64 256, fun w => rfl, .int .u64 255, fun w => rfl, hK⟩, .inl ⟨rfl, rfl⟩⟩
    · exact ⟨18446744073709551615, fun K hK => ⟨.int .u64 0, fun w => rfl, .int .u64 18446744073709551615, fun w => rfl, hK⟩, .inr ⟨rfl, rfl⟩⟩
  refine x_nat (k := .u64) (le_u64' (by omega)) ?_
  refine hmx _ ?_
  refine h.ofStr fun v W o h => ?_
  refine x_lenS (h.rsl (v := v)) ?_
  have hlen : s.length ≤ 7 := by omega
  refine lpx (α := Nat × Nat) (fun A => [.bool false, nV .u64 A.2, nV .i64 A.1]) (fun A W' => A.1 ≤ s.length ∧ XRd.numB B (s.take A.1) 0 = A.2 ∧ A.2 + 1 ≤ 16 ^ A.1 ∧ (∀ x ∈ s.take A.1, (XRd.digB B x).isSome = true) ∧ St w0 G (Ky v (Rd 1 s.length (bytesV s)) :: l) W') (fun A => s.length - A.1) (0, 0) (fun _ => rfl) rfl ⟨Nat.zero_le _, rfl, by decide, by simp, h⟩ ?_
  clear h
  rintro next ⟨i, n⟩ W1 hnext ⟨h1, h2, h3, h4, h⟩
  simp only at h1 h2 h3 h4 h
  refine app3 ?_
  refine a_lss (ifd (fun hc => ?_) fun hc => ?_)
  · have hi : i < s.length := by omega
    have ga : s[i]? = some s[i] := List.getElem?_eq_getElem hi
    generalize s[i] = a at ga
    have hp : 16 ^ i ≤ 16 ^ 6 := Nat.pow_le_pow_right (by decide) (by omega)
    have hn : n + 1 ≤ 16777216 := Nat.le_trans h3 hp
    have hal := a.toNat_lt
    refine jni (fun vs W' => ∃ n', vs = [nV .i64 B, .bool false, strV s, .int .u64 cut, .int .u64 mx, .bool false, nV .u64 n', v, nV .i64 s.length, nV .i64 i] ∧ (∃ d, XRd.digB B a = some d ∧ n' = n * B + d ∧ d < B) ∧ St w0 G (Ky v (Rd 1 s.length (bytesV s)) :: l) W') ?_ ?_
    · rintro vs W _ ⟨n', rfl, ⟨d, hd, hn', hdB⟩, h⟩
      refine app10 ?_
      refine a_add64 (by omega) (by omega) ⟨rfl, rfl, rfl, rfl, rfl, rfl, rfl, ?_⟩
      rw [show ((i : Int) + 1) = ((i + 1 : Nat) : Int) by push_cast; rfl]
      have ht : s.take (i + 1) = s.take i ++ [a] := take_snoc ga
      refine hnext (i + 1, n') W (by simp only; omega) ⟨by simp only; omega, ?_, ?_, fun x hx => ?_, h⟩
      · simp only
        rw [ht, XRd.numB_snoc, h2, hd, hn']; rfl
      · simp only
        have : n * B ≤ n * 16 := Nat.mul_le_mul_left _ (by omega)
        have e : 16 ^ (i + 1) = 16 ^ i * 16 := Nat.pow_succ ..
        rw [e]
        omega
      · simp only at hx
        rw [ht] at hx
        rcases List.mem_append.1 hx with hx | hx
        · exact h4 x hx
        · rw [List.mem_singleton.1 hx, hd]; rfl
    refine x_at (h.rsl (v := v)) (bytesV_at ga) ?_
    refine jni (fun vs W' => ∃ d, vs = [nV .i64 B, .bool false, strV s, .int .u64 cut, .int .u64 mx, .bool false, nV .u64 n, nV .u8 d, v, nV .i64 s.length, nV .i64 i] ∧ XRd.dig0 a = some d ∧ d < 256 ∧ W' = W1) ?_ ?_
    · rintro vs W _ ⟨d, rfl, hd, hd256, rfl⟩
      refine app11 ?_
      refine x_nat (k := .u8) (le_u8 (by omega)) ?_
      refine a_geq (ifd (fun hdB => ?_) fun hdB => ?_)
      · exact err (XRd.parR_bad ga (by rw [XRd.digB_eq, hd]; simp only; rw [if_neg (by omega)])) _ h.to
      refine a_geq (ifd_neg (by omega) ?_)
      refine x_nat (k := .u64) (le_u64' (by omega)) ?_
      have hnB : n * B ≤ n * 16 := Nat.mul_le_mul_left _ (by omega)
      have eNB : ((n : Int) * (B : Int)) = ((n * B : Nat) : Int) := by push_cast; rfl
      refine a_mul ?_
      rw [eNB, wrapU64 (by omega) (by omega)]
      refine x_nat (k := .u64) (le_u64' (by omega)) ?_
      refine a_add ?_
      rw [wrapU64 (by omega) (by omega), show ((n * B : Nat) : Int) + (d : Int) = ((n * B + d : Nat) : Int) by push_cast; rfl]
      refine a_lss (ifd_neg (by omega) ?_)
      refine a_gtr (ifd_neg ?_ ?_)
      · rcases hmx1 with ⟨rfl, rfl⟩ | ⟨rfl, rfl⟩
        · have hi0 : i = 0 := by omega
          subst hi0
          have : n = 0 := by simp only [Nat.pow_zero] at h3; omega
          subst this
          omega
        · omega
      · exact ⟨_, rfl, ⟨d, by rw [XRd.digB_eq, hd]; simp only; rw [if_pos (by omega)], rfl, by omega⟩, h⟩
    have nod : ∀ (W' : World), ¬ (48 ≤ a.toNat ∧ a.toNat ≤ 57) → W' = W1 → ∀ j : FnN 11, (∀ d, XRd.dig0 a = some d → d < 256 → appN 11 j [nV .i64 B, .bool false, strV s, .int .u64 cut, .int .u64 mx, .bool false, nV .u64 n, nV .u8 d, v, nV .i64 s.length, nV .i64 i] W1) →
        CallF Tryd.prog 83 #[byteV a] W1 fun t123 w =>
        RunA Tryd.prog (bin .leq 5 (.const (.int .u8 97)) (.tmp 123) (.int .u8 97) t123) fun t124 =>
        IfB t124 (
        CallF Tryd.prog 83 #[byteV a] w fun t127 w =>
        RunA Tryd.prog (bin .leq 5 (.tmp 127) (.const (.int .u8 122)) t127 (.int .u8 122)) fun t128 =>
        IfB t128 (
        CallF Tryd.prog 83 #[byteV a] w fun t131 w =>
        RunA Tryd.prog (bin .sub 5 (.tmp 131) (.const (.int .u8 97)) t131 (.int .u8 97)) fun t132 =>
        RunA Tryd.prog (bin .add 5 (.tmp 132) (.const (.int .u8 10)) t132 (.int .u8 10)) fun t133 =>
        j (nV .i64 B) (.bool false) (strV s) (.int .u64 cut) (.int .u64 mx) (.bool false) (nV .u64 n) t133 v (nV .i64 s.length) (nV .i64 i) w) (
        RunV Tryd.prog (Instr.makeInterface 126 (.int .i64 2)) w fun t105 w => RR (.tuple #[(.int .u64 0), t105]) w)) (
        RunV Tryd.prog (Instr.makeInterface 126 (.int .i64 2)) w fun t105 w => RR (.tuple #[(.int .u64 0), t105]) w) := fun W' h0 hW j hj => by
      have hor := XRd.or32_le hal
      have bad : ¬ (97 ≤ a.toNat ||| 32 ∧ a.toNat ||| 32 ≤ 122) → RunV Tryd.prog (Instr.makeInterface 126 (.int .i64 2)) W1 fun t105 w => RR (.tuple #[(.int .u64 0), t105]) w := fun hx =>
        err (XRd.parR_bad ga (by rw [XRd.digB_eq, XRd.low_none h0 hx])) _ h.to
      refine lower_spec (a_leq (ifd (fun h97 => lower_spec (a_leq (ifd (fun h122 => lower_spec ?_) fun h122 => ?_))) fun h97 => ?_))
      · have hd := XRd.low_some h0 (by omega) (by omega)
        refine a_sub ?_
        rw [wrapU8 (by omega) (by omega)]
        refine a_add ?_
        rw [wrapU8 (by omega) (by omega), show (((a.toNat ||| 32 : Nat) : Int) - 97 + 10) = (((a.toNat ||| 32) - 87 : Nat) : Int) by omega]
        exact hj _ hd (by omega)
      · exact bad (by omega)
      · exact bad (by omega)
    refine w_eql (ifd (fun h95 => iff' ?_) fun h95 => ?_)
    all_goals
      refine jni (fun vs W' => ∃ d, vs = [nV .i64 B, .bool false, strV s, .int .u64 cut, .int .u64 mx, .bool false, nV .u64 n, nV .u8 d, v, nV .i64 s.length, nV .i64 i] ∧ XRd.dig0 a = some d ∧ d < 256 ∧ W' = W1) (by rintro vs W' _ ⟨d, rfl, h1, h2, h3⟩; exact app11 ⟨d, rfl, h1, h2, h3⟩) ?_
      refine a_leq (ifd (fun h48 => a_leq (ifd (fun h57 => ?_) fun h57 => ?_)) fun h48 => ?_)
      · refine a_sub ?_
        rw [wrapU8 (by omega) (by omega), show ((a.toNat : Int) - 48) = ((a.toNat - 48 : Nat) : Int) by omega]
        exact ⟨_, rfl, by unfold XRd.dig0; rw [if_pos (by omega)], by omega, rfl⟩
      · exact nod _ (by omega) rfl _ fun d h1 h2 => ⟨d, rfl, h1, h2, rfl⟩
      · exact nod _ (by omega) rfl _ fun d h1 h2 => ⟨d, rfl, h1, h2, rfl⟩
  · have hi : i = s.length := by omega
    rw [hi, List.take_length] at h2 h4
    refine jni (fun vs W' => vs = [nV .u64 n] ∧ W' = W1) ?_ ?_
    · rintro vs W _ ⟨rfl, rfl⟩
      refine app1 ?_
      have : XRd.parR B s = (n, true) := by
        unfold XRd.parR
        rw [if_pos ⟨hs, List.all_eq_true.2 h4⟩, h2]
      rw [this] at k
      exact k _ h.to
    · exact iff' ⟨rfl, rfl⟩
end
end Go.Proofs.YtlflpbflpcmckaaDoor
