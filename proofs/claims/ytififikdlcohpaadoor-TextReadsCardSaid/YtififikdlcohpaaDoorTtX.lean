/-
  TEXTS: the document's functions: digits, short, Sign, Count, Valid, Text: what each answers.
-/
import Derived.Test.YtififikdlcohpaaDoorTtG
namespace Go.Ez
open Go Go.Lib
set_option linter.unusedSimpArgs false
set_option linter.unusedVariables false
/-- capitals too -/
def digU (c : UInt8) : Option Nat := if 48 ≤ c.toNat ∧ c.toNat ≤ 57 then some (c.toNat - 48) else if 97 ≤ c.toNat ∧ c.toNat ≤ 102 then some (c.toNat - 87) else if 65 ≤ c.toNat ∧ c.toNat ≤ 70 then some (c.toNat - 55) else none
def hexB (b : UInt8) : Txt := [hexd (b.toNat / 16), hexd (b.toNat % 16)]
def hexS (l : Txt) : Txt := l.flatMap hexB
theorem hexS_cons (b : UInt8) (l : Txt) : hexS (b :: l) = hexd (b.toNat / 16) :: hexd (b.toNat % 16) :: hexS l := rfl
theorem hexS_snoc (l : Txt) (b : UInt8) : hexS (l ++ [b]) = hexS l ++ hexB b := by simp [hexS]
theorem hexS_len : ∀ l : Txt, (hexS l).length = 2 * l.length
  | [] => rfl
  | b :: l => by rw [hexS_cons, List.length_cons, List.length_cons, hexS_len l, List.length_cons]; omega
theorem digU_low (c : UInt8) : digU c = dig16 (lowC c) := by
  have : ∀ n : Fin 256, digU (UInt8.ofNat n.val) = dig16 (lowC (UInt8.ofNat n.val)) := by decide +kernel
  have h := this ⟨c.toNat, c.toNat_lt⟩
  simpa using h
theorem take_snocT {l : Txt} {i : Nat} {b : UInt8} (h : l[i]? = some b) : l.take (i + 1) = l.take i ++ [b] := take_next h
/-! ### a sign, as the document reads it -/
/-- value, width, whether -/
def sgR (l : Txt) : Nat × Nat × Bool := if badL l then (0, 0, false) else ((decodeL l).1, (decodeL l).2, true)
/-- bytes that go on, taken in -/
def accF (b : Nat → Nat) (a : Nat) : Nat → Nat
  | 0 => a
  | k + 1 => accF b a k * 64 + b (k + 1) % 64
def heads (c m a low : Nat) : Prop := (m = 1 ∧ c / 32 = 6 ∧ a = c % 32 ∧ low = 128) ∨ (m = 2 ∧ c / 16 = 14 ∧ a = c % 16 ∧ low = 2048) ∨ (m = 3 ∧ c / 8 = 30 ∧ a = c % 8 ∧ low = 65536)
theorem badL_of {l : Txt} (h : decodeL l = (65533, 1)) : sgR l = (0, 0, false) := by
  have hb : badL l := by unfold badL; rw [h]; exact ⟨rfl, rfl⟩
  unfold sgR; rw [if_pos hb]
theorem sgR_of {l : Txt} {v w : Nat} (h : decodeL l = (v, w)) (hw : v < 65533 ∨ 2 ≤ w) : sgR l = (v, w, true) := by
  have hb : ¬ badL l := by
    unfold badL
    rw [h]
    rintro ⟨h1, h2⟩
    simp only at h1 h2
    omega
  unfold sgR; rw [if_neg hb, h]
theorem sg_cont {l : Txt} {m a low j : Nat} (h : heads (l.getD 0 0).toNat m a low) (h1 : 1 ≤ j) (hj : j ≤ m) (hb : ¬ (j < l.length ∧ (l.getD j 0).toNat / 64 = 2)) : sgR l = (0, 0, false) := by
  refine badL_of ?_
  rw [decodeL_N]
  have hjs : j = 1 ∨ j = 2 ∨ j = 3 := by unfold heads at h; omega
  generalize l.length = n at *
  unfold heads at h
  unfold decodeN
  rcases hjs with rfl | rfl | rfl <;>
  · rw [if_neg (by omega), if_neg (by omega), if_neg (by omega), if_neg (by omega)]
theorem sg_all {l : Txt} {m a low v : Nat} (h : heads (l.getD 0 0).toNat m a low) (hb : ∀ j, 1 ≤ j → j ≤ m → (j < l.length ∧ (l.getD j 0).toNat / 64 = 2)) (hv : v = accF (fun j => (l.getD j 0).toNat) a m) :
    ((v < low ∨ 1114111 < v ∨ (55296 ≤ v ∧ v ≤ 57343)) → sgR l = (0, 0, false)) ∧ (¬ (v < low ∨ 1114111 < v ∨ (55296 ≤ v ∧ v ≤ 57343)) → sgR l = (v, m + 1, true)) := by
  have h0 := (l.getD 0 0).toNat_lt
  have b1 := hb 1 (by decide)
  have b2 := hb 2 (by decide)
  have b3 := hb 3 (by decide)
  unfold heads at h
  rcases h with ⟨rfl, h1, h2, h3⟩ | ⟨rfl, h1, h2, h3⟩ | ⟨rfl, h1, h2, h3⟩
  · have q1 := b1 (by decide)
    have ev : (l.getD 0 0).toNat % 32 * 64 + (l.getD 1 0).toNat % 64 = v := by rw [hv, h2]; rfl
    have vl : v < 2048 := by omega
    have e : decodeL l = (if v ≥ 128 then (v, 2) else (65533, 1)) := by
      rw [decodeL_N]; unfold decodeN
      rw [if_neg (by omega), if_pos ⟨h1, q1⟩, ev]
    constructor
    · intro hc
      rw [if_neg (by omega)] at e
      exact badL_of e
    · intro hc
      rw [if_pos (by omega)] at e
      exact sgR_of e (.inr (by omega))
  · have q1 := b1 (by decide)
    have q2 := b2 (by decide)
    have ev : (l.getD 0 0).toNat % 16 * 4096 + (l.getD 1 0).toNat % 64 * 64 + (l.getD 2 0).toNat % 64 = v := by
      have : v = ((l.getD 0 0).toNat % 16 * 64 + (l.getD 1 0).toNat % 64) * 64 + (l.getD 2 0).toNat % 64 := by rw [hv, h2]; rfl
      omega
    have e : decodeL l = (if v ≥ 2048 ∧ (v < 55296 ∨ (57344 ≤ v ∧ v ≤ 1114111)) then (v, 3) else (65533, 1)) := by
      rw [decodeL_N]; unfold decodeN
      rw [if_neg (by omega), if_neg (by omega), if_pos ⟨h1, q1, q2⟩, ev]
    constructor
    · intro hc
      rw [if_neg (by omega)] at e
      exact badL_of e
    · intro hc
      rw [if_pos (by omega)] at e
      exact sgR_of e (.inr (by omega))
  · have q1 := b1 (by decide)
    have q2 := b2 (by decide)
    have q3 := b3 (by decide)
    have ev : (l.getD 0 0).toNat % 8 * 262144 + (l.getD 1 0).toNat % 64 * 4096 + (l.getD 2 0).toNat % 64 * 64 + (l.getD 3 0).toNat % 64 = v := by
      have : v = (((l.getD 0 0).toNat % 8 * 64 + (l.getD 1 0).toNat % 64) * 64 + (l.getD 2 0).toNat % 64) * 64 + (l.getD 3 0).toNat % 64 := by rw [hv, h2]; rfl
      omega
    have e : decodeL l = (if v ≥ 65536 ∧ (v < 55296 ∨ (57344 ≤ v ∧ v ≤ 1114111)) then (v, 4) else (65533, 1)) := by
      rw [decodeL_N]; unfold decodeN
      rw [if_neg (by omega), if_neg (by omega), if_neg (by omega), if_pos ⟨h1, q1, q2, q3⟩, ev]
    constructor
    · intro hc
      rw [if_neg (by omega)] at e
      exact badL_of e
    · intro hc
      rw [if_pos (by omega)] at e
      exact sgR_of e (.inr (by omega))
theorem sg_head {l : Txt} (h : 128 ≤ (l.getD 0 0).toNat) (h1 : (l.getD 0 0).toNat / 32 ≠ 6) (h2 : (l.getD 0 0).toNat / 16 ≠ 14) (h3 : (l.getD 0 0).toNat / 8 ≠ 30) : sgR l = (0, 0, false) := by
  refine badL_of ?_
  rw [decodeL_N]; unfold decodeN
  rw [if_neg (by omega), if_neg (by omega), if_neg (by omega), if_neg (by omega)]
theorem sg_ascii {c : UInt8} {r : Txt} (h : c.toNat < 128) : sgR (c :: r) = (c.toNat, 1, true) := by
  exact sgR_of (dec_ascii h) (.inl (by omega))
theorem shl_or6 {a x : Nat} (hx : x < 64) : a * 2 ^ 6 ||| x = a * 64 + x := by
  have := Nat.shiftLeft_add_eq_or_of_lt (i := 6) (b := x) (by omega) a
  rw [Nat.shiftLeft_eq] at this
  rw [← this]
theorem accF_lt (b : Nat → Nat) {a : Nat} (ha : a < 32) : ∀ k, k ≤ 3 → accF b a k < 32 * 64 ^ k
  | 0, _ => by simpa [accF] using ha
  | k + 1, h => by
    have := accF_lt b ha k (by omega)
    rw [accF, Nat.pow_succ]
    have : b (k + 1) % 64 < 64 := Nat.mod_lt _ (by decide)
    omega
theorem unlet_none {c : Nat} (hc : c ≠ 0) (h : ∀ j, j < 128 → letB j ≠ c) : unletB c = none := by
  cases hu : unletB c with
  | none => rfl
  | some n =>
    exfalso
    have hn := unletB_lt hu
    refine h n hn ?_
    unfold unletB at hu
    (repeat (first | (cases hu; done) | (cases hu; subst_vars; decide) | split at hu))
theorem utf_1 {a : Nat} (h : a ≤ 127) : utf a = [UInt8.ofNat a] := by unfold utf encodeRune; rw [encodeRuneZ_one (by omega) (by omega)]; simp
theorem utf_2 {a : Nat} (h1 : 127 < a) (h : a ≤ 2047) : utf a = [UInt8.ofNat (192 + a / 64), UInt8.ofNat (128 + a % 64)] := by
  unfold utf encodeRune; rw [encodeRuneZ_two (by omega) (by omega)]
  simp only [List.map_cons, List.map_nil]
  congr 1
theorem utf_3 {a : Nat} (h : (2048 ≤ a ∧ a < 55296) ∨ (57343 < a ∧ a ≤ 65535)) : utf a = [UInt8.ofNat (224 + a / 4096), UInt8.ofNat (128 + a / 64 % 64), UInt8.ofNat (128 + a % 64)] := by
  unfold utf encodeRune; rw [encodeRuneZ_three (by omega)]
  simp only [List.map_cons, List.map_nil]
  congr 1
theorem utf_4 {a : Nat} (h1 : 65535 < a) (h : a ≤ 1114111) : utf a = [UInt8.ofNat (240 + a / 262144), UInt8.ofNat (128 + a / 4096 % 64), UInt8.ofNat (128 + a / 64 % 64), UInt8.ofNat (128 + a % 64)] := by
  unfold utf encodeRune; rw [encodeRuneZ_four (by omega) (by omega)]
  simp only [List.map_cons, List.map_nil]
  congr 1
end Go.Ez
namespace Go.Proofs.YtififikdlcohpaaDoor
open Go Go.Ez Go.RowKit Go.Lib
set_option linter.unusedSimpArgs false
set_option linter.unusedVariables false
abbrev BO (l : Txt) : Value → As := Ow 5 1 l.length (bytesV l)
theorem bytesV_at {m : Txt} {i : Nat} {x : UInt8} (h : m[i]? = some x) : (bytesV m)[i]? = some (byteV x) := by unfold bytesV; rw [List.getElem?_map, h]; rfl
section
variable {w0 W W' : World} {l R : List As} {RR : Value → World → Prop} {t s : Txt} {c : UInt8} {b n : Nat} {v : Value}
theorem sub8 {K : Value → Prop} {tt : TypeId} {X Y : Operand} {c : UInt8} {m : Nat} (hm : m ≤ c.toNat) (k : K (nV .u8 (c.toNat - m))) : RunA Tryd.prog (bin .sub tt X Y (byteV c) (nV .u8 m)) K := by
  have hc := c.toNat_lt
  refine a_sub ?_
  have e : IntKind.u8.wrap ((c.toNat : Int) - (m : Int)) = ((c.toNat - m : Nat) : Int) := by
    rw [show ((c.toNat : Int) - (m : Int)) = ((c.toNat - m : Nat) : Int) by omega]
    exact wrap_nat (le_u8 (by omega))
  rw [e]; exact k
/-- hblref1.Digit -/
theorem digit_spec (k : RR (.int .i64 (match digU c with | some d => (d : Int) | none => -1)) W) : CallF Tryd.prog 93 #[byteV c] W RR := by
  refine sh93_calls ?_
  unfold sh93
  have hc := c.toNat_lt
  refine jni (fun vs W' => vs = [] ∧ W' = W ∧ digU c = none) (by rintro vs W' _ ⟨rfl, rfl, hd⟩; exact app0 (by rw [hd] at k; exact k)) ?_
  refine a_geq (ifd (fun g1 => a_leq (ifd (fun g2 => ?_) fun g2 => ?_)) fun g1 => ?_)
  · have e : digU c = some (c.toNat - 48) := by unfold digU; rw [if_pos (by omega)]
    rw [e] at k
    refine sub8 (m := 48) (by omega) (v_convN Tryd.underlying5 Tryd.underlying3 (le_i64 (by omega)) ?_)
    exact k
  all_goals
    refine jni (fun vs W' => vs = [] ∧ W' = W ∧ digU c = none) (by rintro vs W' _ ⟨rfl, rfl, hd⟩; exact app0 ⟨rfl, rfl, hd⟩) ?_
    refine a_geq (ifd (fun g3 => a_leq (ifd (fun g4 => ?_) fun g4 => ?_)) fun g3 => ?_)
    · have e : digU c = some (c.toNat - 87) := by unfold digU; rw [if_neg (by omega), if_pos (by omega)]
      rw [e] at k
      refine sub8 (m := 97) (by omega) (v_convN Tryd.underlying5 Tryd.underlying3 (le_i64 (by omega)) (a_add64 (by omega) (by omega) ?_))
      rw [show (((c.toNat - 97 : Nat) : Int) + 10) = ((c.toNat - 87 : Nat) : Int) by omega]
      exact k
    all_goals
      refine jni (fun vs W' => vs = [] ∧ W' = W ∧ digU c = none) (by rintro vs W' _ ⟨rfl, rfl, hd⟩; exact app0 ⟨rfl, rfl, hd⟩) ?_
      refine a_geq (ifd (fun g5 => a_leq (ifd (fun g6 => ?_) fun g6 => ⟨rfl, rfl, ?_⟩)) fun g5 => ⟨rfl, rfl, ?_⟩)
      · have e : digU c = some (c.toNat - 55) := by unfold digU; rw [if_neg (by omega), if_neg (by omega), if_pos (by omega)]
        rw [e] at k
        refine sub8 (m := 65) (by omega) (v_convN Tryd.underlying5 Tryd.underlying3 (le_i64 (by omega)) (a_add64 (by omega) (by omega) ?_))
        rw [show (((c.toNat - 65 : Nat) : Int) + 10) = ((c.toNat - 55 : Nat) : Int) by omega]
        exact k
      · unfold digU; rw [if_neg (by omega), if_neg (by omega), if_neg (by omega)]
      · unfold digU; rw [if_neg (by omega), if_neg (by omega), if_neg (by omega)]
/-- hblref1.Hex -/
theorem hexr_spec {q : Txt} (hv : By W v q) (hl : q.length ≤ 1000000000) (k : ∀ W', Below W.heap.size W W' → RR (strV (hexS q)) W') : CallF Tryd.prog 48 #[v] W RR := by
  refine sh48_calls ?_
  unfold sh48
  refine lpx (α := Nat × Value) (fun A => [A.2, nV .i64 A.1]) (fun A W' => A.1 ≤ q.length ∧ Cel1 A.2 ∧ St W G0 [Ky A.2 (BO (hexS (q.take A.1)))] W') (fun A => q.length - A.1) (0, .slice none 0 0) (fun _ => rfl) rfl ⟨Nat.zero_le _, ⟨rfl⟩, (St.start W).nilOw⟩ ?_
  rintro next ⟨i, x⟩ W1 hnext ⟨h1, o, h⟩
  simp only at h1 o h
  refine app2 ?_
  refine x_lenS hv (a_lss (ifd (fun hc => ?_) fun hc => ?_))
  · have hi : i < q.length := by dsimp only at hc; omega
    have ga : q[i]? = some q[i] := List.getElem?_eq_getElem hi
    generalize q[i] = a at ga
    have ha := a.toNat_lt
    have htl : (q.take i).length = i := by rw [List.length_take]; omega
    have hxl := hexS_len (q.take i)
    refine ⟨St W G0 [Ky x (BO (hexS (q.take i)))], h.drew, ?_⟩
    replace h := h.drew
    refine x_sat hv (fun w hw => hv.below hw.low) (bytesV_at ga) ?_
    refine a_shrN (m := 4) (by decide) ?_
    refine x_index (l := digs16) (hexd_at (by omega)) ?_
    refine x_sat hv (fun w hw => hv.below hw.low) (bytesV_at ga) ?_
    refine a_andN (n := a.toNat) (m := 15) (le_u8 ha) (le_u8 (by decide)) ?_
    have e15 : a.toNat &&& 15 = a.toNat % 16 := Nat.and_two_pow_sub_one_eq_mod a.toNat 4
    rw [e15]
    refine x_index (l := digs16) (hexd_at (by omega)) ?_
    refine h.lit fun u W2 ou h => ?_
    have hu := h.osl (v := u)
    refine h.app (v := x) hu (fun c hc => by rcases List.mem_cons.1 hc with rfl | hc; rfl; rw [List.mem_singleton.1 hc]; rfl) (by unfold maxLen; omega) (by omega) fun v' W3 o' h _ => ?_
    refine a_add64 (by omega) (by omega) ⟨rfl, rfl, ?_⟩
    rw [show ((i : Int) + 1) = ((i + 1 : Nat) : Int) by push_cast; rfl]
    refine hnext (i + 1, v') _ (by simp only; omega) ⟨by simp only; omega, o', ?_⟩
    have e : hexS (q.take (i + 1)) = hexS (q.take i) ++ [hexd (a.toNat / 2 ^ 4), hexd (a.toNat % 16)] := by
      rw [take_snocT ga, hexS_snoc]; rfl
    show St W G0 [Ky v' (Ow 5 1 (hexS (q.take (i + 1))).length (bytesV (hexS (q.take (i + 1)))))] W3
    rw [e, List.length_append, bytesV_append]
    have h2 : St W G0 [Ky v' (Ow 5 1 ((hexS (q.take i)).length + 2) (bytesV (hexS (q.take i)) ++ [byteV (hexd (a.toNat / 2 ^ 4)), byteV (hexd (a.toNat % 16))]))] W3 := h.to
    exact h2
  · have hi : i = q.length := by dsimp only at hc; omega
    rw [hi, List.take_length] at h
    refine x_str (h.osl (v := x)) ?_
    exact k W1 h.low
/-- hblref1.short -/
theorem short_spec (k : RR (byteV (UInt8.ofNat (letB c.toNat))) W) : CallF Tryd.prog 47 #[byteV c] W RR := by
  refine sh47_calls ?_
  unfold sh47
  refine jni (fun vs W' => vs = [byteV c, byteV c, .bool (decide (c = 34 ∨ c = 92))] ∧ W' = W) ?_ ?_
  rotate_left
  · refine x_eqB (b := 34) (ifd (fun e => ⟨?_, rfl⟩) fun e => ?_)
    · rw [decide_eq_true (show c = 34 ∨ c = 92 from .inl e), decide_eq_true e]
    · refine x_eqB (b := 92) ⟨?_, rfl⟩
      have : decide (c = 92) = decide (c = 34 ∨ c = 92) := decide_eq_decide.2 ⟨.inr, fun h => h.resolve_left e⟩
      rw [this]
  rintro vs W' _ ⟨rfl, rfl⟩
  refine app3 ?_
  refine ifd (fun e => ?_) fun n0 => ?_
  · rcases e with rfl | rfl
    · exact k
    · exact k
  refine x_eqB (b := 8) (ifd (fun e => by rw [e] at k; exact k) fun n3 => ?_)
  refine x_eqB (b := 12) (ifd (fun e => by rw [e] at k; exact k) fun n4 => ?_)
  refine x_eqB (b := 10) (ifd (fun e => by rw [e] at k; exact k) fun n5 => ?_)
  refine x_eqB (b := 13) (ifd (fun e => by rw [e] at k; exact k) fun n6 => ?_)
  refine x_eqB (b := 9) (ifd (fun e => by rw [e] at k; exact k) fun n7 => ?_)
  have ne : ∀ {d : UInt8}, ¬ c = d → c.toNat ≠ d.toNat := fun hd e => hd (UInt8.toNat_inj.1 e)
  have m1 : ¬ c.toNat = 34 := ne fun e => n0 (.inl e)
  have m2 : ¬ c.toNat = 92 := ne fun e => n0 (.inr e)
  have m3 : ¬ c.toNat = 8 := ne n3
  have m4 : ¬ c.toNat = 12 := ne n4
  have m5 : ¬ c.toNat = 10 := ne n5
  have m6 : ¬ c.toNat = 13 := ne n6
  have m7 : ¬ c.toNat = 9 := ne n7
  have hl0 : letB c.toNat = 0 := by
    unfold letB
    rw [if_neg m1, if_neg m2, if_neg m3, if_neg m4, if_neg m5, if_neg m6, if_neg m7]
  rw [hl0] at k
  exact k
/-- hblref1.Sign -/
theorem rsgn_spec {p : Nat} (hp : p < s.length) (hs : s.length ≤ 1000000000) (k : RR (.tuple #[nV .i64 (sgR (s.drop p)).1, nV .i64 (sgR (s.drop p)).2.1, .bool (sgR (s.drop p)).2.2]) W) : CallF Tryd.prog 50 #[strV s, nV .i64 p] W RR := by
  refine sh50_calls ?_
  unfold sh50
  have hd : s.drop p = s[p] :: s.drop (p + 1) := List.drop_eq_getElem_cons hp
  have ga : s[p]? = some s[p] := List.getElem?_eq_getElem hp
  have hdl : (s.drop p).length = s.length - p := List.length_drop
  have hget : ∀ j, p + j < s.length → s[p + j]? = some ((s.drop p).getD j 0) := fun j hj => by
    rw [List.getD_eq_getElem?_getD, List.getElem?_drop, List.getElem?_eq_getElem hj]; rfl
  have h0 : (s.drop p).getD 0 0 = s[p] := by rw [hd]; rfl
  generalize s[p] = c at *
  have hc := c.toNat_lt
  have hl1 : 1 ≤ (s.drop p).length := by omega
  refine x_index ga ?_
  refine v_ofByte Tryd.underlying5 Tryd.underlying3 (by decide) ?_
  refine a_lss (ifd (fun h1 => ?_) fun h1 => ?_)
  · rw [hd, sg_ascii (by omega)] at k
    exact k
  rw [← h0] at hc h1 ⊢
  generalize s.drop p = r at *
  clear hd ga h0
  have bad : sgR r = (0, 0, false) → RR (.tuple #[.int .i64 0, .int .i64 0, .bool false]) W := fun e => by rw [e] at k; exact k
  refine jni (fun vs W' => ∃ m a low : Nat, vs = [strV s, nV .i64 p, nV .i64 m, nV .i64 a, nV .i64 low] ∧ heads (r.getD 0 0).toNat m a low ∧ W' = W) ?_ ?_
  · rintro vs W' _ ⟨m, a, low, rfl, hh, rfl⟩
    refine app5 ?_
    have hm : m ≤ 3 ∧ a < 32 ∧ 1 ≤ m := by unfold heads at hh; omega
    refine lpx (α := Nat) (fun i => [nV .i64 (accF (fun j => (r.getD j 0).toNat) a i), nV .i64 (i + 1 : Nat)]) (fun i W1 => i ≤ m ∧ (∀ j, 1 ≤ j → j ≤ i → (j < r.length ∧ (r.getD j 0).toNat / 64 = 2)) ∧ W1 = W') (fun i => m - i) 0 (fun _ => rfl) rfl ⟨Nat.zero_le _, fun j h1 h2 => by omega, rfl⟩ ?_
    rintro next i W1 hnext ⟨hi, hall, rfl⟩
    refine app2 ?_
    have hlt := accF_lt (fun j => (r.getD j 0).toNat) hm.2.1 i (by omega)
    have h64 : 64 ^ i ≤ 64 ^ 3 := Nat.pow_le_pow_right (by decide) (by omega)
    have h64' : (64 : Nat) ^ 3 = 262144 := by decide
    refine a_leq (ifd (fun g1 => ?_) fun g1 => ?_)
    · have him : i < m := by omega
      refine a_add64 (by omega) (by omega) ?_
      rw [show ((p : Int) + ((i + 1 : Nat) : Int)) = ((p + (i + 1) : Nat) : Int) by push_cast; rfl]
      refine x_len (a_geq (ifd (fun g2 => bad (sg_cont hh (j := i + 1) (by omega) (by omega) (by omega))) fun g2 => ?_))
      refine a_add64 (by omega) (by omega) ?_
      rw [show ((p : Int) + ((i + 1 : Nat) : Int)) = ((p + (i + 1) : Nat) : Int) by push_cast; rfl]
      refine x_index (hget (i + 1) (by omega)) ?_
      refine a_shrN (n := (r.getD (i + 1) 0).toNat) (m := 6) (by decide) ?_
      refine w_neq (ifd (fun g3 => bad (sg_cont hh (j := i + 1) (by omega) (by omega) (by omega))) fun g3 => ?_)
      have hb := (r.getD (i + 1) 0).toNat_lt
      refine a_shlN (m := 6) (by decide) (le_i64 (by omega)) ?_
      refine a_add64 (by omega) (by omega) ?_
      rw [show ((p : Int) + ((i + 1 : Nat) : Int)) = ((p + (i + 1) : Nat) : Int) by push_cast; rfl]
      refine x_index (hget (i + 1) (by omega)) ?_
      refine a_andN (n := (r.getD (i + 1) 0).toNat) (m := 63) (le_u8 hb) (le_u8 (by decide)) ?_
      have e63 : (r.getD (i + 1) 0).toNat &&& 63 = (r.getD (i + 1) 0).toNat % 64 := Nat.and_two_pow_sub_one_eq_mod _ 6
      rw [e63]
      refine v_convN (n := (r.getD (i + 1) 0).toNat % 64) Tryd.underlying5 Tryd.underlying3 (le_i64 (by omega)) ?_
      refine a_orN (le_i64 (by omega)) (le_i64 (by omega)) ?_
      rw [shl_or6 (by omega)]
      refine a_add64 (by omega) (by omega) ⟨rfl, rfl, rfl, rfl, ?_⟩
      rw [show (((i + 1 : Nat) : Int) + 1) = ((i + 1 + 1 : Nat) : Int) by push_cast; rfl]
      refine hnext (i + 1) _ (by omega) ⟨by omega, fun j h1 h2 => ?_, rfl⟩
      by_cases hj : j ≤ i
      · exact hall j h1 hj
      · obtain rfl : j = i + 1 := by omega
        exact ⟨by omega, by omega⟩
    · obtain rfl : i = m := by omega
      obtain ⟨eb, eg⟩ := sg_all hh hall rfl
      generalize accF (fun j => (r.getD j 0).toNat) a i = V at *
      refine jni (fun vs W' => vs = [nV .i64 i, nV .i64 V] ∧ ¬ (V < low ∨ 1114111 < V ∨ (55296 ≤ V ∧ V ≤ 57343)) ∧ W' = W1) ?_ ?_
      · rintro vs W' _ ⟨rfl, hno, rfl⟩
        refine app2 ?_
        rw [eg hno] at k
        refine a_add64 (by omega) (by omega) ?_
        rw [show ((i : Int) + 1) = ((i + 1 : Nat) : Int) by push_cast; rfl]
        exact k
      · refine a_lss (ifd (fun g2 => bad (eb (.inl (by omega)))) fun g2 => ?_)
        refine a_gtr (ifd (fun g3 => bad (eb (.inr (.inl (by omega))))) fun g3 => ?_)
        refine a_geq (ifd (fun g4 => ?_) fun g4 => ⟨rfl, by omega, rfl⟩)
        refine a_leq (ifd (fun g5 => bad (eb (.inr (.inr (by omega))))) fun g5 => ⟨rfl, by omega, rfl⟩)
  · have e31 : (r.getD 0 0).toNat &&& 31 = (r.getD 0 0).toNat % 32 := Nat.and_two_pow_sub_one_eq_mod _ 5
    have e15 : (r.getD 0 0).toNat &&& 15 = (r.getD 0 0).toNat % 16 := Nat.and_two_pow_sub_one_eq_mod _ 4
    have e7 : (r.getD 0 0).toNat &&& 7 = (r.getD 0 0).toNat % 8 := Nat.and_two_pow_sub_one_eq_mod _ 3
    refine a_geq (ifd (fun g1 => a_leq (ifd (fun g2 => ?_) fun g2 => ?_)) fun g1 => ?_)
    · refine a_andN (n := (r.getD 0 0).toNat) (m := 31) (le_i64 (by omega)) (le_i64 (by omega)) ?_
      rw [e31]
      exact ⟨1, _, 128, rfl, .inl ⟨rfl, by omega, rfl, rfl⟩, rfl⟩
    all_goals
      refine jni (fun vs W' => ∃ m a low : Nat, vs = [strV s, nV .i64 p, nV .i64 m, nV .i64 a, nV .i64 low] ∧ heads (r.getD 0 0).toNat m a low ∧ W' = W) (by rintro vs W' _ ⟨m, a, low, rfl, hh, rfl⟩; exact app5 ⟨m, a, low, rfl, hh, rfl⟩) ?_
      refine a_geq (ifd (fun g3 => a_leq (ifd (fun g4 => ?_) fun g4 => ?_)) fun g3 => ?_)
      · refine a_andN (n := (r.getD 0 0).toNat) (m := 15) (le_i64 (by omega)) (le_i64 (by omega)) ?_
        rw [e15]
        exact ⟨2, _, 2048, rfl, .inr (.inl ⟨rfl, by omega, rfl, rfl⟩), rfl⟩
      all_goals
        refine a_geq (ifd (fun g5 => a_leq (ifd (fun g6 => ?_) fun g6 => ?_)) fun g5 => ?_)
        · refine a_andN (n := (r.getD 0 0).toNat) (m := 7) (le_i64 (by omega)) (le_i64 (by omega)) ?_
          rw [e7]
          exact ⟨3, _, 65536, rfl, .inr (.inr ⟨rfl, by omega, rfl, rfl⟩), rfl⟩
        · exact bad (sg_head (by omega) (by omega) (by omega) (by omega))
        · exact bad (sg_head (by omega) (by omega) (by omega) (by omega))
/-- hblref1.Count -/
theorem rcount_spec (hs : s.length ≤ 1000000000) (k : RR (.int .i64 (countS s)) W) : CallF Tryd.prog 23 #[strV s] W RR := by
  refine sh23_calls ?_
  unfold sh23
  unfold countS at k
  refine lpx (α := Nat × Nat) (fun A => [nV .i64 A.1, nV .i64 A.2]) (fun A W' => W' = W ∧ A.2 ≤ s.length ∧ A.1 ≤ A.2 ∧ validD (s.drop A.2) = validD s ∧ A.1 + runeCountL (s.drop A.2) = runeCountL s) (fun A => s.length - A.2) (0, 0) (fun _ => rfl) rfl ⟨rfl, Nat.zero_le _, Nat.le_refl _, rfl, Nat.zero_add _⟩ ?_
  rintro next ⟨n, i⟩ W1 hnext ⟨rfl, h1, h2, h3, h4⟩
  simp only at h1 h2 h3 h4
  refine app2 ?_
  refine x_len (a_lss (ifd (fun hc => ?_) fun hc => ?_))
  · have hi : i < s.length := by dsimp only at hc; omega
    have hne := drop_ne hi
    have hdl : (s.drop i).length = s.length - i := List.length_drop
    refine rsgn_spec hi hs ?_
    have hst := validD_step (s.drop i) hne
    unfold sgR
    by_cases hb : badL (s.drop i)
    · rw [if_pos hb]
      refine a_ext0 (a_ext1 (a_ext2 (a_not (ift ?_))))
      rw [if_pos (show (decodeL (s.drop i)).1 = 65533 ∧ (decodeL (s.drop i)).2 = 1 from hb)] at hst
      rw [← h3, hst] at k
      exact k
    · rw [if_neg hb]
      refine a_ext0 (a_ext1 (a_ext2 (a_not (iff' ?_))))
      obtain ⟨f1, f2, _, _⟩ := dec_facts (s.drop i) hne
      have hw := f1 hb
      rw [if_neg (show ¬ ((decodeL (s.drop i)).1 = 65533 ∧ (decodeL (s.drop i)).2 = 1) from hb)] at hst
      have hcs := count_step hne
      rw [List.drop_drop] at hst hcs
      generalize decodeL (s.drop i) = D at *
      refine a_add64 (by dsimp only; omega) (by dsimp only; omega) (a_add64 (by dsimp only; omega) (by dsimp only; omega) ⟨rfl, ?_⟩)
      rw [show ((n : Int) + 1) = ((n + 1 : Nat) : Int) by push_cast; rfl, show ((i : Int) + (D.2 : Int)) = ((i + D.2 : Nat) : Int) by push_cast; rfl]
      exact hnext (n + 1, i + D.2) _ (by simp only; omega) ⟨rfl, by simp only; omega, by simp only; omega, by simp only; rw [← hst]; exact h3, by simp only; omega⟩
  · have hi : i = s.length := by dsimp only at hc; omega
    rw [hi, List.drop_length] at h3 h4
    have hv : validD s = true := h3.symm
    have hc0 : runeCountL ([] : Txt) = 0 := rfl
    rw [hv, if_pos rfl, ← h4, hc0, Nat.add_zero] at k
    exact k
/-- hblref1.Valid -/
theorem rvalid_spec (hs : s.length ≤ 1000000000) (k : RR (.bool (validD s)) W) : CallF Tryd.prog 22 #[strV s] W RR := by
  refine sh22_calls ?_
  unfold sh22
  refine rcount_spec hs (a_geq ?_)
  have : decide (0 ≤ countS s) = validD s := by
    unfold countS
    cases hv : validD s with
    | true => simp
    | false => simp
  rw [this]; exact k
/-- hblref1.Text -/
theorem rtext_spec {a : Int} (h : St w0 G0 l W) (k : ∀ W', St w0 G0 l W' → RR (.tuple #[strV (signS a).1, .bool (signS a).2]) W') : CallF Tryd.prog 21 #[.int .i64 a] W RR := by
  refine sh21_calls ?_
  unfold sh21
  have no : ¬ ((0 ≤ a ∧ a < 55296) ∨ (57343 < a ∧ a ≤ 1114111)) → RR (.tuple #[strV [], .bool false]) W := fun hc => by
    have := k W h
    unfold signS at this; rw [if_neg hc] at this; exact this
  have yes : ∀ {n : Nat} {t : Txt} {u : Value} {W' : World} {X : Value → As}, a = n → okSg n → Go.Ez.utf n = t → St w0 G0 (X u :: l) W' → RR (.tuple #[strV t, .bool true]) W' := fun {n t u W' X} hn ho ht h' => by
    have := k W' h'.tail
    unfold signS at this
    rw [if_pos (by unfold okSg at ho; omega), hn, Int.toNat_natCast, ht] at this
    exact this
  have an : ∀ x : Nat, x &&& 63 = x % 64 := fun x => Nat.and_two_pow_sub_one_eq_mod x 6
  have tl : ∀ {n : Nat} {K : Value → World → Prop} {X1 Y1 X2 Y2 : Operand} {W1 : World}, n ≤ 2147483647 → K (byteV (UInt8.ofNat (128 + n % 64))) W1 →
      RunA Tryd.prog (bin .and 3 X1 Y1 (nV .i64 n) (.int .i64 63)) fun t => RunA Tryd.prog (bin .or 3 X2 Y2 (.int .i64 128) t) fun t => RunV Tryd.prog (convert 3 5 t) W1 K := fun {n K X1 Y1 X2 Y2 W1} hn hk => by
    refine a_andN (n := n) (m := 63) (le_i64 (by omega)) (le_i64 (by omega)) ?_
    rw [an]
    refine a_orN (n := 128) (m := n % 64) (le_i64 (by omega)) (le_i64 (by omega)) ?_
    rw [or128 (by omega)]
    exact v_byte Tryd.underlying3 Tryd.underlying5 hk
  refine jni (fun vs W' => ∃ n : Nat, a = n ∧ 65535 < n ∧ n ≤ 1114111 ∧ vs = [nV .i64 n] ∧ W' = W) ?_ ?_
  · rintro vs W' _ ⟨n, ha, h1, h2, rfl, rfl⟩
    refine app1 ?_
    refine a_shrN (m := 18) (by decide) ?_
    refine a_orN (n := 240) (m := n / 2 ^ 18) (le_i64 (by omega)) (le_i64 (by omega)) ?_
    rw [or240 (by omega)]
    refine v_byte Tryd.underlying3 Tryd.underlying5 ?_
    refine a_shrN (m := 12) (by decide) (tl (by omega) ?_)
    refine a_shrN (m := 6) (by decide) (tl (by omega) ?_)
    refine tl (by omega) ?_
    refine h.lit fun u W _ h => ?_
    refine x_str (l := [UInt8.ofNat (240 + n / 2 ^ 18), UInt8.ofNat (128 + n / 2 ^ 12 % 64), UInt8.ofNat (128 + n / 2 ^ 6 % 64), UInt8.ofNat (128 + n % 64)]) (h.osl (v := u)) ?_
    exact yes ha (by unfold okSg; omega) (utf_4 h1 h2) h
  refine a_lss (ifd (fun g1 => no (by omega)) fun g1 => ?_)
  refine a_gtr (ifd (fun g2 => no (by omega)) fun g2 => ?_)
  obtain ⟨n, rfl⟩ := Int.eq_ofNat_of_zero_le (show 0 ≤ a by omega)
  refine a_geq (ifd (fun g3 => a_leq (ifd (fun g4 => no (by omega)) fun g4 => ?_)) fun g3 => ?_)
  all_goals
    have ho : okSg n := by unfold okSg; omega
    refine a_lss (ifd (fun g5 => ?_) fun g5 => ?_)
    · refine v_byte Tryd.underlying3 Tryd.underlying5 ?_
      refine h.lit fun u W _ h => ?_
      refine x_str (l := [UInt8.ofNat n]) (h.osl (v := u)) ?_
      exact yes rfl ho (utf_1 (by omega)) h
    refine a_lss (ifd (fun g6 => ?_) fun g6 => ?_)
    · refine a_shrN (m := 6) (by decide) ?_
      refine a_orN (n := 192) (m := n / 2 ^ 6) (le_i64 (by omega)) (le_i64 (by omega)) ?_
      rw [or192 (by omega)]
      refine v_byte Tryd.underlying3 Tryd.underlying5 ?_
      refine tl (by omega) ?_
      refine h.lit fun u W _ h => ?_
      refine x_str (l := [UInt8.ofNat (192 + n / 2 ^ 6), UInt8.ofNat (128 + n % 64)]) (h.osl (v := u)) ?_
      exact yes rfl ho (utf_2 (by omega) (by omega)) h
    refine a_lss (ifd (fun g7 => ?_) fun g7 => ?_)
    · refine a_shrN (m := 12) (by decide) ?_
      refine a_orN (n := 224) (m := n / 2 ^ 12) (le_i64 (by omega)) (le_i64 (by omega)) ?_
      rw [or224 (by omega)]
      refine v_byte Tryd.underlying3 Tryd.underlying5 ?_
      refine a_shrN (m := 6) (by decide) (tl (by omega) ?_)
      refine tl (by omega) ?_
      refine h.lit fun u W _ h => ?_
      refine x_str (l := [UInt8.ofNat (224 + n / 2 ^ 12), UInt8.ofNat (128 + n / 2 ^ 6 % 64), UInt8.ofNat (128 + n % 64)]) (h.osl (v := u)) ?_
      exact yes rfl ho (utf_3 (by unfold okSg at ho; omega)) h
    exact ⟨n, rfl, by omega, by unfold okSg at ho; omega, rfl, rfl⟩
end
end Go.Proofs.YtififikdlcohpaaDoor
