/-
  KEYS: the document's functions: digits of 16, numbers, names, parts.
-/
import Derived.Test.YtgflkjhljggeiaaDoorKyV
import Derived.Test.YtgflkjhljggeiaaDoorKyE
namespace Go.Ez
open Go Go.Lib
theorem app0 {f : FnN 0} {w : World} (h : f w) : appN 0 f [] w := h
theorem unh_short (f : UInt8 → Option Nat) : ∀ {l : Txt}, l.length ≤ 1 → unh f l = some []
  | [], _ => rfl
  | [_], _ => rfl
  | _ :: _ :: _, h => by simp at h
end Go.Ez
namespace Go.Proofs.YtgflkjhljggeiaaDoor
open Go Go.Ez Go.RowKit Go.Lib
set_option linter.unusedSimpArgs false
set_option linter.unusedVariables false
section
variable {w0 W W' : World} {l R : List As} {RR : Value → World → Prop} {t s : Txt} {c : UInt8} {b n : Nat} {v : Value}
theorem sub8 {K : Value → Prop} {tt : TypeId} {X Y : Operand} {c : UInt8} {m : Nat} (hm : m ≤ c.toNat) (k : K (nV .u8 (c.toNat - m))) : RunA Tryd.prog (bin .sub tt X Y (byteV c) (nV .u8 m)) K := by
  have hc := c.toNat_lt
  refine a_sub ?_
  have e : IntKind.u8.wrap ((c.toNat : Int) - (m : Int)) = ((c.toNat - m : Nat) : Int) := by
    rw [show ((c.toNat : Int) - (m : Int)) = ((c.toNat - m : Nat) : Int) by omega]
    exact wrap_nat (le_u8 (by omega))
  rw [e]; exact k
/-- hblref1.Digit -/
theorem digit_spec (k : RR (.int .i64 (match digU c with | some d => (d : Int) | none => -1)) W) : CallF Tryd.prog 42 #[byteV c] W RR := by
  refine sh42_calls ?_
  unfold sh42
  have hc := c.toNat_lt
  refine jni (fun vs W' => vs = [] ∧ W' = W ∧ digU c = none) (by rintro vs W' _ ⟨rfl, rfl, hd⟩; exact app0 (by rw [hd] at k; exact k)) ?_
  refine a_geq (ifd (fun g1 => a_leq (ifd (fun g2 => ?_) fun g2 => ?_)) fun g1 => ?_)
  · have e : digU c = some (c.toNat - 48) := by unfold digU; rw [if_pos (by omega)]
    rw [e] at k
    refine sub8 (m := 48) (by omega) (v_convN Tryd.underlying5 Tryd.underlying3 (le_i64 (by omega)) ?_)
    exact k
  all_goals
    refine jni (fun vs W' => vs = [] ∧ W' = W ∧ digU c = none) (by rintro vs W' _ ⟨rfl, rfl, hd⟩; exact app0 ⟨rfl, rfl, hd⟩) ?_
    refine a_geq (ifd (fun g3 => a_leq (ifd (fun g4 => ?_) fun g4 => ?_)) fun g3 => ?_)
    · have e : digU c = some (c.toNat - 87) := by unfold digU; rw [if_neg (by omega), if_pos (by omega)]
      rw [e] at k
      refine sub8 (m := 97) (by omega) (v_convN Tryd.underlying5 Tryd.underlying3 (le_i64 (by omega)) (a_add64 (by omega) (by omega) ?_))
      rw [show (((c.toNat - 97 : Nat) : Int) + 10) = ((c.toNat - 87 : Nat) : Int) by omega]
      exact k
    all_goals
      refine jni (fun vs W' => vs = [] ∧ W' = W ∧ digU c = none) (by rintro vs W' _ ⟨rfl, rfl, hd⟩; exact app0 ⟨rfl, rfl, hd⟩) ?_
      refine a_geq (ifd (fun g5 => a_leq (ifd (fun g6 => ?_) fun g6 => ⟨rfl, rfl, ?_⟩)) fun g5 => ⟨rfl, rfl, ?_⟩)
      · have e : digU c = some (c.toNat - 55) := by unfold digU; rw [if_neg (by omega), if_neg (by omega), if_pos (by omega)]
        rw [e] at k
        refine sub8 (m := 65) (by omega) (v_convN Tryd.underlying5 Tryd.underlying3 (le_i64 (by omega)) (a_add64 (by omega) (by omega) ?_))
        rw [show (((c.toNat - 65 : Nat) : Int) + 10) = ((c.toNat - 55 : Nat) : Int) by omega]
        exact k
      · unfold digU; rw [if_neg (by omega), if_neg (by omega), if_neg (by omega)]
      · unfold digU; rw [if_neg (by omega), if_neg (by omega), if_neg (by omega)]
/-- hblref1.Hex -/
theorem hexr_spec {q : Txt} (hv : By W v q) (hl : q.length ≤ 1000000000) (k : ∀ W', Below W.heap.size W W' → RR (strV (hexS q)) W') : CallF Tryd.prog 35 #[v] W RR := by
  refine sh35_calls ?_
  unfold sh35
  refine lpx (α := Nat × Value) (fun A => [A.2, nV .i64 A.1]) (fun A W' => A.1 ≤ q.length ∧ Cel1 A.2 ∧ St W G0 [Ky A.2 (BO (hexS (q.take A.1)))] W') (fun A => q.length - A.1) (0, .slice none 0 0) (fun _ => rfl) rfl ⟨Nat.zero_le _, ⟨rfl⟩, (St.start W).nilOw⟩ ?_
  rintro next ⟨i, x⟩ W1 hnext ⟨h1, o, h⟩
  simp only at h1 o h
  refine app2 ?_
  refine x_lenS hv (a_lss (ifd (fun hc => ?_) fun hc => ?_))
  · have hi : i < q.length := by dsimp only at hc; omega
    have ga : q[i]? = some q[i] := List.getElem?_eq_getElem hi
    generalize q[i] = a at ga
    have ha := a.toNat_lt
    have htl : (q.take i).length = i := by rw [List.length_take]; omega
    have hxl := hexS_len (q.take i)
    refine ⟨St W G0 [Ky x (BO (hexS (q.take i)))], h.drew, ?_⟩
    replace h := h.drew
    refine x_sat hv (fun w hw => hv.below hw.low) (bytesV_at ga) ?_
    refine a_shrN (m := 4) (by decide) ?_
    refine x_index (l := digs16) (hexd_at (by omega)) ?_
    refine x_sat hv (fun w hw => hv.below hw.low) (bytesV_at ga) ?_
    refine a_andN (n := a.toNat) (m := 15) (le_u8 ha) (le_u8 (by decide)) ?_
    have e15 : a.toNat &&& 15 = a.toNat % 16 := Nat.and_two_pow_sub_one_eq_mod a.toNat 4
    rw [e15]
    refine x_index (l := digs16) (hexd_at (by omega)) ?_
    refine h.lit fun u W2 ou h => ?_
    have hu := h.osl (v := u)
    refine h.app (v := x) hu (fun c hc => by rcases List.mem_cons.1 hc with rfl | hc; rfl; rw [List.mem_singleton.1 hc]; rfl) (by unfold maxLen; omega) (by omega) fun v' W3 o' h _ => ?_
    refine a_add64 (by omega) (by omega) ⟨rfl, rfl, ?_⟩
    rw [show ((i : Int) + 1) = ((i + 1 : Nat) : Int) by push_cast; rfl]
    refine hnext (i + 1, v') _ (by simp only; omega) ⟨by simp only; omega, o', ?_⟩
    have e : hexS (q.take (i + 1)) = hexS (q.take i) ++ [hexd (a.toNat / 2 ^ 4), hexd (a.toNat % 16)] := by
      rw [take_snoc ga, hexS_snoc]; rfl
    show St W G0 [Ky v' (Ow 5 1 (hexS (q.take (i + 1))).length (bytesV (hexS (q.take (i + 1)))))] W3
    rw [e, List.length_append, bytesV_append]
    have h2 : St W G0 [Ky v' (Ow 5 1 ((hexS (q.take i)).length + 2) (bytesV (hexS (q.take i)) ++ [byteV (hexd (a.toNat / 2 ^ 4)), byteV (hexd (a.toNat % 16))]))] W3 := h.to
    exact h2
  · have hi : i = q.length := by dsimp only at hc; omega
    rw [hi, List.take_length] at h
    refine x_str (h.osl (v := x)) ?_
    exact k W1 h.low
/-- hblref1.Unhex -/
theorem unhexr_spec (h : St w0 G0 l W) (hs : s.length ≤ 1000000000) (k : ∀ v W', Cel1 v → St w0 G0 (Ky v (BO ((unhD s).getD [])) :: l) W' → RR (.tuple #[v, .bool (unhD s).isSome]) W') : CallF Tryd.prog 33 #[strV s] W RR := by
  refine sh33_calls ?_
  unfold sh33
  unfold unhD at k
  generalize hRES : unh digU s = RES at k
  refine lpx (α := Nat × Txt × Value) (fun A => [A.2.2, nV .i64 A.1]) (fun A W' => A.1 ≤ s.length ∧ A.2.1.length ≤ A.1 ∧ (unh digU (s.drop A.1)).map (A.2.1 ++ ·) = RES ∧ Cel1 A.2.2 ∧ St w0 G0 (Ky A.2.2 (BO A.2.1) :: l) W') (fun A => s.length - A.1) (0, [], .slice none 0 0) (fun _ => rfl) rfl
    ⟨Nat.zero_le _, Nat.le_refl _, by rw [List.drop_zero, hRES]; cases RES <;> rfl, ⟨rfl⟩, h.nilOw⟩ ?_
  clear h
  rintro next ⟨i, p, v⟩ W1 hnext ⟨h1, h3, he, o, h⟩
  simp only at h1 h3 he o h
  refine app2 ?_
  refine a_add64 (by dsimp only; omega) (by dsimp only; omega) (x_len (a_lss (ifd (fun hc => ?_) fun hc => ?_)))
  · have hi : i + 1 < s.length := by dsimp only at hc; omega
    have ga : s[i]? = some s[i] := List.getElem?_eq_getElem (by omega)
    have gb : s[i + 1]? = some s[i + 1] := List.getElem?_eq_getElem hi
    generalize s[i] = a at ga
    generalize s[i + 1] = bb at gb
    rw [unh_step digU ga gb] at he
    unfold unh at he
    refine ⟨fun _ => True, trivial, ?_⟩
    replace h := h.drew
    refine x_index ga (a_add64 (by omega) (by omega) ?_)
    rw [show ((i : Int) + 1) = ((i + 1 : Nat) : Int) by push_cast; rfl]
    refine x_index gb ?_
    refine digit_spec (c := a) (digit_spec (c := bb) ?_)
    cases ha : digU a with
    | none =>
      rw [ha] at he
      simp only at he
      refine a_lss (ifd_pos (by decide) ?_)
      rw [← he] at k
      exact k _ _ ⟨rfl⟩ (h.to (l' := l)).nilOw
    | some x =>
      have hx := digU_lt ha
      rw [ha] at he
      simp only at he
      refine a_lss (ifd_neg (by simp only; omega) ?_)
      cases hb : digU bb with
      | none =>
        rw [hb] at he
        simp only at he
        refine a_lss (ifd_pos (by decide) ?_)
        rw [← he] at k
        exact k _ _ ⟨rfl⟩ (h.to (l' := l)).nilOw
      | some y =>
        have hy := digU_lt hb
        rw [hb] at he
        simp only at he
        refine a_lss (ifd_neg (by simp only; omega) ?_)
        refine a_shlN (m := 4) (by decide) (le_i64 (by omega)) ?_
        refine a_orN (le_i64 (by omega)) (le_i64 (by omega)) ?_
        rw [pair_or hx hy]
        refine v_byte Tryd.underlying3 Tryd.underlying5 ?_
        refine h.push (v := v) (x := byteV (UInt8.ofNat (x * 16 + y))) (by unfold maxLen; omega) (by omega) fun v' W' o' h _ => ?_
        refine a_add64 (by omega) (by omega) ⟨rfl, ?_⟩
        rw [show ((i : Int) + 2) = ((i + 2 : Nat) : Int) by push_cast; rfl]
        refine hnext (i + 2, p ++ [UInt8.ofNat (x * 16 + y)], v') W' (by simp only; omega) ⟨by simp only; omega, by simp only; rw [List.length_append, List.length_singleton]; omega, ?_, o', ?_⟩
        · simp only
          rw [← he, Option.map_map]
          congr 1
          funext z
          simp
        · show St w0 G0 (Ky v' (Ow 5 1 (p ++ [UInt8.ofNat (x * 16 + y)]).length (bytesV (p ++ [UInt8.ofNat (x * 16 + y)]))) :: l) W'
          rw [List.length_append, bytesV_append]
          exact h
  · have hi : s.length ≤ i + 1 := by dsimp only at hc; omega
    rw [unh_short digU (by rw [List.length_drop]; omega)] at he
    have he2 : some p = RES := by rw [← he]; simp
    rw [← he2] at k
    simp only at k
    refine hexr_spec (h.osl (v := v)) (by omega) fun W2 hb => ?_
    replace h := h.ext hb
    refine w_neqL (ifd (fun hne => ?_) fun heq => ?_)
    · rw [if_neg hne] at k
      exact k _ _ ⟨rfl⟩ (h.to (l' := l)).nilOw
    · rw [if_pos (Classical.not_not.1 heq)] at k
      exact k v W2 o h
end
end Go.Proofs.YtgflkjhljggeiaaDoor
