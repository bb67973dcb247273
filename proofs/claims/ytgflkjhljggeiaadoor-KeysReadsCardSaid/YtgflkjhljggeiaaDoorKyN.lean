/-
  NUMBERS for keys: Digits, Hex, Unhex: what each answers.
-/
import Derived.Test.YtgflkjhljggeiaaDoorNuHp
import Derived.Test.YtgflkjhljggeiaaDoorKyShf
import Derived.Test.YtgflkjhljggeiaaDoorBuN
import Derived.Test.YtgflkjhljggeiaaDoorEzMk
import Derived.Test.YtgflkjhljggeiaaDoorTy
import Derived.Lib.SmallJoins
import Derived.Lib.AppendIntMem
namespace Go.Proofs.YtgflkjhljggeiaaDoor
open Go Go.Ez Go.RowKit Go.Lib
set_option linter.unusedSimpArgs false
set_option linter.unusedVariables false
abbrev PowTab (w : World) : Prop := TabIs Tryd.prog w "internal/strconv.uint64pow10" .u64 pow10Tab
theorem le_i64 {n : Nat} (h : n ≤ 9223372036854775807) : (n : Int) ≤ IntKind.i64.max := by simp only [IntKind.max, IntKind.bits, IntKind.signed]; simp; omega
theorem le_u8 {n : Nat} (h : n < 256) : (n : Int) ≤ IntKind.u8.max := by simp only [IntKind.max, IntKind.bits, IntKind.signed]; simp; omega
theorem callF_of {g : FuncId} {args : Array Value} {w : World} {Q : Ending → World → Prop} {R : Value → World → Prop} (h : Calls Tryd.prog g args w Q) (k : ∀ e w', Q e w' → ∃ v, e = .returned v ∧ R v w') : CallF Tryd.prog g args w R := Calls.mono h k
abbrev BO (l : Txt) : Value → As := Ow 5 1 l.length (bytesV l)
theorem bytesV_at {m : Txt} {i : Nat} {x : UInt8} (h : m[i]? = some x) : (bytesV m)[i]? = some (byteV x) := by unfold bytesV; rw [List.getElem?_map, h]; rfl
section
variable {w0 W W' : World} {l R : List As} {RR : Value → World → Prop} {t s : Txt} {c : UInt8} {b n : Nat} {v : Value}
theorem powTab_at {l : List As} (hT : PowTab w0) (h : St w0 G0 l W) : PowTab W := Go.Joins.tab_stays (g := (Tryd.prog.globalNamed "internal/strconv.uint64pow10").getD 0) (by kernel_rfl) hT h.low (Nat.le_refl _)
/-- num.Digits -/
theorem digits_spec {n width : Int} (hT : PowTab w0) (h : St w0 G0 l W) (hn : n ≤ 9223372036854775807) (k : ∀ W', St w0 G0 l W' → RR (.tuple #[strV (digR n width).1, .bool (digR n width).2]) W') :
    CallF Tryd.prog 41 #[.int .i64 n, .int .i64 width] W RR := by
  refine sh41_calls ?_
  unfold sh41
  unfold digR at k
  refine a_lss (ifd (fun hc => by rw [if_pos (.inl hc)] at k; exact k W h) fun hc1 => ?_)
  refine a_lss (ifd (fun hc => by rw [if_pos (.inr (.inl hc))] at k; exact k W h) fun hc2 => ?_)
  refine a_gtr (ifd (fun hc => by rw [if_pos (.inr (.inr (.inl hc)))] at k; exact k W h) fun hc3 => ?_)
  obtain ⟨n, rfl⟩ := Int.eq_ofNat_of_zero_le (Int.not_lt.1 hc1)
  obtain ⟨m, rfl⟩ := Int.eq_ofNat_of_zero_le (show 0 ≤ width by omega)
  rw [Int.toNat_natCast, Int.toNat_natCast] at k
  refine callF_of (Any.strconv_Itoa Tryd.laysM171 (n : Int) (by omega) hn W (powTab_at hT h)) fun e W' hq => ?_
  obtain ⟨he, q, os, rfl⟩ := hq
  rw [itoa_nonneg] at he
  refine ⟨_, he, ?_⟩
  replace h := h.ext (Go.Lib.below_grow W.heap.size W (Nat.le_refl _) q os)
  generalize Go.Sort.grow (W.drewN q) os = W at *
  refine x_len (a_gtr (ifd (fun hc => by rw [if_pos (.inr (.inr (.inr hc)))] at k; exact k W h) fun hc4 => ?_))
  rw [if_neg (by omega)] at k
  have hle : (decDigits n).length ≤ m := by omega
  refine x_len (a_sub64 (by omega) (by omega) ?_)
  rw [show ((m : Int) - ((decDigits n).length : Int)) = ((m - (decDigits n).length : Nat) : Int) by omega]
  refine callF_of (Any.strings_Repeat Tryd.lays105 ⟨⟨by kernel_rfl, by kernel_rfl⟩, Tryd.underlying5, Tryd.isAgg5, Tryd.sizeOf5, Tryd.zeroValue5, by kernel_rfl, by kernel_rfl, by kernel_rfl, by decide⟩ ⟨#[48]⟩ (m - (decDigits n).length) W (by omega) (by show 1 * _ ≤ _; omega)) fun e W' hq => ?_
  refine ⟨_, hq.1, ?_⟩
  replace h := h.ext hq.2
  obtain ⟨p1, p2⟩ := pad_dgs hle
  have hrl : (repeatL [48] (m - (decDigits n).length)).length = m - (decDigits n).length := by rw [repeatL_length, List.length_singleton, Nat.mul_one]
  refine a_cat (l := repeatL [48] (m - (decDigits n).length)) (by rw [hrl]; omega) ?_
  rw [p1]
  exact k W' h
/-- what is read of two digits -/
theorem pair_or {x y : Nat} (hx : x < 16) (hy : y < 16) : x * 2 ^ 4 ||| y = x * 16 + y := by
  have : ∀ p q : Fin 16, p.val * 2 ^ 4 ||| q.val = p.val * 16 + q.val := by decide
  exact this ⟨x, hx⟩ ⟨y, hy⟩
/-- num.Unhex -/
theorem unhex_spec (h : St w0 G0 l W) (hs : s.length ≤ 1000000000) (k : ∀ v W', Cel1 v → St w0 G0 (Ky v (BO ((unhR s).getD [])) :: l) W' → RR (.tuple #[v, .bool (unhR s).isSome]) W') : CallF Tryd.prog 39 #[strV s] W RR := by
  refine sh39_calls ?_
  unfold sh39
  unfold unhR at k
  refine x_len (a_rem64 (by omega) (by decide) ?_)
  refine w_neq (ifd (fun hc => ?_) fun hc => ?_)
  · rw [if_neg (by omega)] at k
    exact k _ _ ⟨rfl⟩ h.nilOw
  have hev : s.length % 2 = 0 := by omega
  rw [if_pos hev] at k
  generalize hRES : unh dig16 s = RES at k
  refine lpx (α := Nat × Txt × Value) (fun A => [A.2.2, nV .i64 A.1]) (fun A W' => A.1 ≤ s.length ∧ A.1 % 2 = 0 ∧ A.2.1.length ≤ A.1 ∧ (unh dig16 (s.drop A.1)).map (A.2.1 ++ ·) = RES ∧ Cel1 A.2.2 ∧ St w0 G0 (Ky A.2.2 (BO A.2.1) :: l) W') (fun A => s.length - A.1) (0, [], .slice none 0 0) (fun _ => rfl) rfl
    ⟨Nat.zero_le _, rfl, Nat.le_refl _, by rw [List.drop_zero, hRES]; cases RES <;> rfl, ⟨rfl⟩, h.nilOw⟩ ?_
  clear h
  rintro next ⟨i, p, v⟩ W1 hnext ⟨h1, h2, h3, he, o, h⟩
  simp only at h1 h2 h3 he o h
  refine app2 ?_
  refine x_len (a_lss (ifd (fun hc => ?_) fun hc => ?_))
  · have hi : i + 1 < s.length := by dsimp only at hc; omega
    have ga : s[i]? = some s[i] := List.getElem?_eq_getElem (by omega)
    have gb : s[i + 1]? = some s[i + 1] := List.getElem?_eq_getElem hi
    generalize s[i] = a at ga
    generalize s[i + 1] = bb at gb
    rw [unh_step dig16 ga gb] at he
    unfold unh at he
    refine ⟨fun _ => True, trivial, ?_⟩
    replace h := h.drew
    refine x_index ga (a_add64 (by omega) (by omega) ?_)
    rw [show ((i : Int) + 1) = ((i + 1 : Nat) : Int) by push_cast; rfl]
    refine x_index gb ?_
    refine idxByte_spec (t := digs16) (c := a) (idxByte_spec (t := digs16) (c := bb) ?_)
    rw [dig16_idx, dig16_idx]
    cases ha : dig16 a with
    | none =>
      rw [ha] at he
      simp only at he
      refine a_lss (ifd_pos (by decide) ?_)
      rw [← he] at k
      exact k _ _ ⟨rfl⟩ (h.to (l' := l)).nilOw
    | some x =>
      have hx := (dig16_lt ha).1
      rw [ha] at he
      simp only at he
      refine a_lss (ifd_neg (by simp only; omega) ?_)
      cases hb : dig16 bb with
      | none =>
        rw [hb] at he
        simp only at he
        refine a_lss (ifd_pos (by decide) ?_)
        rw [← he] at k
        exact k _ _ ⟨rfl⟩ (h.to (l' := l)).nilOw
      | some y =>
        have hy := (dig16_lt hb).1
        rw [hb] at he
        simp only at he
        refine a_lss (ifd_neg (by simp only; omega) ?_)
        refine a_shlN (m := 4) (by decide) (le_i64 (by omega)) ?_
        refine a_orN (le_i64 (by omega)) (le_i64 (by omega)) ?_
        rw [pair_or hx hy]
        refine v_byte Tryd.underlying3 Tryd.underlying5 ?_
        refine h.push (v := v) (x := byteV (UInt8.ofNat (x * 16 + y))) (by unfold maxLen; omega) (by omega) fun v' W' o' h _ => ?_
        refine a_add64 (by omega) (by omega) ⟨rfl, ?_⟩
        rw [show ((i : Int) + 2) = ((i + 2 : Nat) : Int) by push_cast; rfl]
        refine hnext (i + 2, p ++ [UInt8.ofNat (x * 16 + y)], v') W' (by simp only; omega) ⟨by simp only; omega, by simp only; omega, by simp only; rw [List.length_append, List.length_singleton]; omega, ?_, o', ?_⟩
        · simp only
          rw [← he, Option.map_map]
          congr 1
          funext z
          simp
        · show St w0 G0 (Ky v' (Ow 5 1 (p ++ [UInt8.ofNat (x * 16 + y)]).length (bytesV (p ++ [UInt8.ofNat (x * 16 + y)]))) :: l) W'
          rw [List.length_append, bytesV_append]
          exact h
  · have hi : i = s.length := by dsimp only at hc; omega
    rw [hi, List.drop_length] at he
    have he2 : some p = RES := by rw [← he]; simp [unh]
    rw [← he2] at k
    exact k v W1 o h
/-- num.Hex -/
theorem hex_spec {q : Txt} (h : St w0 G0 l W) (hv : By w0 v q) (hl : q.length ≤ 1000000000) (k : ∀ W', St w0 G0 l W' → RR (strV (hexS q)) W') : CallF Tryd.prog 36 #[v] W RR := by
  refine sh36_calls ?_
  unfold sh36
  refine h.allocS fun b W h => ?_
  replace h := buNew h
  refine x_lenS hv ?_
  refine lpx (α := Nat) (fun i => [nV .i64 i]) (fun i W' => i ≤ q.length ∧ St w0 G0 (Ky b (Bu (hexS (q.take i))) :: l) W') (fun i => q.length - i) 0 (fun _ => rfl) rfl ⟨Nat.zero_le _, h⟩ ?_
  clear h
  rintro next i W1 hnext ⟨h1, h⟩
  refine app1 ?_
  refine a_lss (ifd (fun hc => ?_) fun hc => ?_)
  · have hi : i < q.length := by omega
    have ga : q[i]? = some q[i] := List.getElem?_eq_getElem hi
    generalize q[i] = a at ga
    have ha := a.toNat_lt
    have htl : (q.take i).length = i := by rw [List.length_take]; omega
    have hxl := hexS_len (q.take i)
    refine x_at (hv.below h.low) (bytesV_at ga) ?_
    refine a_shrN (m := 4) (by decide) ?_
    refine x_index (l := digs16) (hexd_at (by omega)) ?_
    refine wbyte_spec h (by omega) fun W h => ?_
    refine a_andN (n := a.toNat) (m := 15) (le_u8 ha) (le_u8 (by decide)) ?_
    have e15 : a.toNat &&& 15 = a.toNat % 16 := Nat.and_two_pow_sub_one_eq_mod a.toNat 4
    rw [e15]
    refine x_index (l := digs16) (hexd_at (by omega)) ?_
    refine wbyte_spec h (by rw [List.length_append, List.length_singleton]; omega) fun W h => ?_
    refine a_add64 (by omega) (by omega) ⟨rfl, rfl, rfl, ?_⟩
    rw [show ((i : Int) + 1) = ((i + 1 : Nat) : Int) by push_cast; rfl]
    refine hnext (i + 1) _ (by omega) ⟨by omega, ?_⟩
    have e : hexS (q.take (i + 1)) = hexS (q.take i) ++ [hexd (a.toNat / 2 ^ 4)] ++ [hexd (a.toNat % 16)] := by
      rw [take_snoc ga, hexS_snoc, List.append_assoc]; rfl
    rw [e]
    exact h
  · have hi : i = q.length := by omega
    rw [hi, List.take_length] at h
    refine bstr_spec h (by rw [hexS_len]; omega) fun W h => ?_
    exact k W h
end
end Go.Proofs.YtgflkjhljggeiaaDoor
