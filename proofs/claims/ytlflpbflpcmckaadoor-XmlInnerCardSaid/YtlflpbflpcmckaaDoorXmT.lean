/-
  RUNES: utf8.ValidRune, text.Sign: what each answers.
-/
import Derived.Test.YtlflpbflpcmckaaDoorBuX
import Derived.Test.YtlflpbflpcmckaaDoorTtP
import Derived.Lib.RuneBytes
import Derived.Laws.Runes
namespace Go.Ez
open Go Go.Proofs Go.RowKit Go.Lib
set_option linter.unusedSimpArgs false
set_option linter.unusedVariables false
theorem utf_cells (n : Nat) : bytesV (utf n) = runeCells n := byteCells_encodeRune n
theorem utf_len (n : Nat) : 1 ≤ (utf n).length ∧ (utf n).length ≤ 4 := by
  have := encodeRuneZ_length (n : Int)
  unfold utf encodeRune
  rw [List.length_map]; exact this
theorem or192 {m : Nat} (h : m < 32) : 192 ||| m = 192 + m := (by decide : ∀ m : Fin 32, 192 ||| m.val = 192 + m.val) ⟨m, h⟩
theorem or224 {m : Nat} (h : m < 16) : 224 ||| m = 224 + m := (by decide : ∀ m : Fin 16, 224 ||| m.val = 224 + m.val) ⟨m, h⟩
theorem or240 {m : Nat} (h : m < 8) : 240 ||| m = 240 + m := (by decide : ∀ m : Fin 8, 240 ||| m.val = 240 + m.val) ⟨m, h⟩
theorem or128 {m : Nat} (h : m < 64) : 128 ||| m = 128 + m := (by decide : ∀ m : Fin 64, 128 ||| m.val = 128 + m.val) ⟨m, h⟩
theorem and63 (n : Nat) : n % 256 &&& 63 = n % 64 := by
  have := Nat.and_two_pow_sub_one_eq_mod (n % 256) 6
  rw [show (2 : Nat) ^ 6 - 1 = 63 from rfl, show (2 : Nat) ^ 6 = 64 from rfl] at this
  rw [this]; omega
section
variable {P : Program} {w : World} {KW : Value → World → Prop} {k' : IntKind}
theorem x_u8 {src dst : TypeId} {d0 : TypeDesc} {n : Nat} [u : Und P src d0] [u' : Und P dst (.int .u8)] (h : KW (nV .u8 (n % 256)) w) : RunV P (convert src dst (nV k' n)) w KW :=
  x_conv (by
    have : IntKind.u8.wrap (n : Int) = ((n % 256 : Nat) : Int) := by
      simp only [IntKind.wrap, IntKind.bits, IntKind.signed]; simp
    rw [this]; exact h)
theorem x_nat {src dst : TypeId} {d0 : TypeDesc} {k : IntKind} {n : Nat} [u : Und P src d0] [u' : Und P dst (.int k)] (hn : (n : Int) ≤ k.max) (h : KW (nV k n) w) : RunV P (convert src dst (nV k' n)) w KW := v_convN u.eq u'.eq hn h
end
theorem le_u8 {n : Nat} (h : n < 256) : (n : Int) ≤ IntKind.u8.max := by simp only [IntKind.max, IntKind.bits, IntKind.signed]; simp; omega
theorem le_i32 {n : Nat} (h : n ≤ 2147483647) : (n : Int) ≤ IntKind.i32.max := by simp only [IntKind.max, IntKind.bits, IntKind.signed]; simp; omega
theorem le_u32 {n : Nat} (h : n ≤ 2147483647) : (n : Int) ≤ IntKind.u32.max := by simp only [IntKind.max, IntKind.bits, IntKind.signed]; simp; omega
theorem le_i64 {n : Nat} (h : n ≤ 2147483647) : (n : Int) ≤ IntKind.i64.max := by simp only [IntKind.max, IntKind.bits, IntKind.signed]; simp; omega
end Go.Ez
namespace Go.Proofs.YtlflpbflpcmckaaDoor
open Go Go.Ez Go.RowKit Go.Lib
set_option linter.unusedSimpArgs false
set_option linter.unusedVariables false
section
variable {w0 W W' : World} {G : Nat → Prop} {l R : List As} {RR : Value → World → Prop} {t s : Txt} {c : UInt8} {b n : Nat} {v : Value}
/-- utf8.ValidRune -/
theorem vrune_spec {r : Int} (k : RR (.bool (validRune r)) W) : CallF Tryd.prog 80 #[.int .i32 r] W RR := by
  refine sh80_calls ?_
  unfold sh80
  have yes : (0 ≤ r ∧ r < 55296) ∨ (57343 < r ∧ r ≤ 1114111) → RR (.bool true) W := fun hc => by
    have : validRune r = true := decide_eq_true hc
    rw [this] at k; exact k
  have no : ¬ ((0 ≤ r ∧ r < 55296) ∨ (57343 < r ∧ r ≤ 1114111)) → RR (.bool false) W := fun hc => by
    have : validRune r = false := decide_eq_false hc
    rw [this] at k; exact k
  refine jni (fun vs W' => vs = [] ∧ ¬ ((0 ≤ r ∧ r < 55296) ∨ (57343 < r ∧ r ≤ 1114111)) ∧ W' = W) (by rintro vs W' _ ⟨rfl, hc, rfl⟩; exact no hc) ?_
  have part : ¬ (0 ≤ r ∧ r < 55296) → jn 0 (fun w => lamN 0 (fun vs w => vs = [] ∧ ¬ ((0 ≤ r ∧ r < 55296) ∨ (57343 < r ∧ r ≤ 1114111)) ∧ w = W) w) fun j => RunA Tryd.prog (bin .lss 21 (.const (.int .i32 57343)) (.tmp 11) (.int .i32 57343) (.int .i32 r)) fun t12 => IfB t12 (RunA Tryd.prog (bin .leq 21 (.tmp 14) (.const (.int .i32 1114111)) (.int .i32 r) (.int .i32 1114111)) fun t15 => IfB t15 (RR (.bool true) W) (j W)) (j W) := fun hn => by
    refine jni (fun vs W' => vs = [] ∧ ¬ ((0 ≤ r ∧ r < 55296) ∨ (57343 < r ∧ r ≤ 1114111)) ∧ W' = W) (by rintro vs W' _ ⟨rfl, hc, rfl⟩; exact ⟨rfl, hc, rfl⟩) ?_
    refine a_lss (ifd (fun h1 => a_leq (ifd (fun h2 => yes (.inr ⟨h1, h2⟩)) fun h2 => ?_)) fun h1 => ?_)
    · exact ⟨rfl, by omega, rfl⟩
    · exact ⟨rfl, by omega, rfl⟩
  refine a_leq (ifd (fun h1 => a_lss (ifd (fun h2 => yes (.inl ⟨h1, h2⟩)) fun h2 => ?_)) fun h1 => ?_)
  · exact part (by omega)
  · exact part (by omega)
theorem enc_utf {c : Nat} (h : (c < 55296) ∨ (57343 < c ∧ c ≤ 1114111)) : Utf8.encode (c : Int) = ⟨(utf c).toArray⟩ := by
  have hv : Utf8.valid (c : Int) = true := by unfold Utf8.valid; simp; omega
  unfold Utf8.encode utf encodeRune
  rw [if_pos hv]
  simp only [Int.toNat_natCast]
  by_cases h1 : c < 128
  · rw [if_pos h1, encodeRuneZ_one (by omega) (by omega)]
    simp
  · rw [if_neg h1]
    by_cases h2 : c < 2048
    · rw [if_pos h2, encodeRuneZ_two (by omega) (by omega)]
      simp only [List.map_cons, List.map_nil, show (192 + (c : Int) / 64).toNat = 192 + c / 64 by omega, show (128 + (c : Int) % 64).toNat = 128 + c % 64 by omega]
    · rw [if_neg h2]
      by_cases h3 : c < 65536
      · rw [if_pos h3, encodeRuneZ_three (by omega)]
        simp only [List.map_cons, List.map_nil, show (224 + (c : Int) / 4096).toNat = 224 + c / 4096 by omega, show (128 + (c : Int) / 64 % 64).toNat = 128 + c / 64 % 64 by omega, show (128 + (c : Int) % 64).toNat = 128 + c % 64 by omega]
      · rw [if_neg h3, encodeRuneZ_four (by omega) (by omega)]
        simp only [List.map_cons, List.map_nil, show (240 + (c : Int) / 262144).toNat = 240 + c / 262144 by omega, show (128 + (c : Int) / 4096 % 64).toNat = 128 + c / 4096 % 64 by omega, show (128 + (c : Int) / 64 % 64).toNat = 128 + c / 64 % 64 by omega, show (128 + (c : Int) % 64).toNat = 128 + c % 64 by omega]
/-- text.Sign -/
def signS (c : Int) : Txt × Bool := if (0 ≤ c ∧ c < 55296) ∨ (57343 < c ∧ c ≤ 1114111) then (utf c.toNat, true) else ([], false)
theorem tsign_spec {r : Int} (k : RR (.tuple #[strV (signS r).1, .bool (signS r).2]) W) : CallF Tryd.prog 78 #[.int .i64 r] W RR := by
  refine sh78_calls ?_
  unfold sh78
  have no : ¬ ((0 ≤ r ∧ r < 55296) ∨ (57343 < r ∧ r ≤ 1114111)) → RR (.tuple #[strV [], .bool false]) W := fun hc => by
    unfold signS at k; rw [if_neg hc] at k; exact k
  refine a_lss (ifd (fun h1 => no (by omega)) fun h1 => a_gtr (ifd (fun h2 => no (by omega)) fun h2 => ?_))
  obtain ⟨c, rfl⟩ := Int.eq_ofNat_of_zero_le (show 0 ≤ r by omega)
  refine x_nat (le_i32 (by omega)) (vrune_spec (a_not (ifnb (fun hv => ?_) fun hv => ?_)))
  · exact no (of_decide_eq_false hv)
  · have hc := of_decide_eq_true hv
    refine x_nat (le_i32 (by omega)) ?_
    refine .of (run_convert_int_string (P := Tryd.prog) W 21 9 .i32 (c : Int) (by kernel_rfl) Tryd.underlying9) ?_
    rw [enc_utf (by omega)]
    unfold signS at k
    rw [if_pos hc, Int.toNat_natCast] at k
    exact k
end
end Go.Proofs.YtlflpbflpcmckaaDoor
