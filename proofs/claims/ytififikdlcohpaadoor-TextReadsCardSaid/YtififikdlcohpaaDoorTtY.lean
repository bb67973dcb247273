/-
  TextReads: the document's Quote and Unquote; the walk.
-/
import Derived.Test.YtififikdlcohpaaDoorTtX
namespace Go.Ez
open Go Go.Lib
set_option linter.unusedSimpArgs false
set_option linter.unusedVariables false
theorem next_none {s : Txt} {p : Nat} (h : s.length ≤ p) : nextT s (p, 0) = (0, (p, 2)) := by
  unfold nextT
  rw [if_neg (by simp), List.getElem?_eq_none h]
theorem next_err {s : Txt} {p : Nat} {e : Int} (h : e ≠ 0) : nextT s (p, e) = (0, (p, e)) := by unfold nextT; rw [if_pos h]
theorem fail_err {e d : Int} {p : Nat} (h : e ≠ 0) : failT d (p, e) = (p, e) := by unfold failT; rw [if_neg h]
theorem fail_ok {d : Int} {p : Nat} : failT d (p, 0) = (p, d) := rfl
theorem low0 : dig16 (lowC 0) = none := by decide
theorem four_succ (s : Txt) (k n : Nat) (x : Pt) : fourT s (k + 1) n x = match dig16 (lowC (nextT s x).1) with
    | none => (0, failT 4 (nextT s x).2)
    | some d => fourT s k (n * 16 + d) (nextT s x).2 := rfl
theorem four_err {s : Txt} {k n p : Nat} {e : Int} (h : e ≠ 0) : fourT s (k + 1) n (p, e) = (0, (p, e)) := by
  rw [four_succ, next_err h]
  simp only [low0]
  rw [fail_err h]
theorem wants_err {s : Txt} {c : UInt8} {p : Nat} {e : Int} (h : e ≠ 0) : wantsT s c (p, e) = (p, e) := by
  unfold wantsT; rw [next_err h, if_neg (fun hh => h hh.1)]
theorem wants_none {s : Txt} {c : UInt8} {p : Nat} (h : s.length ≤ p) : wantsT s c (p, 0) = (p, 2) := by
  unfold wantsT; rw [next_none h, if_neg (by simp)]
theorem wants_no {s : Txt} {c d : UInt8} {p : Nat} (h : s[p]? = some d) (hd : d ≠ c) : wantsT s c (p, 0) = (p + 1, 4) := by
  unfold wantsT; rw [next_at h, if_pos ⟨rfl, hd⟩]; rfl
/-- four digits: a number and its place, or an error -/
theorem four_out {s : Txt} : ∀ {k n p : Nat}, ((fourT s k n (p, 0)).2.2 = 0 → (fourT s k n (p, 0)).2.1 = p + k) ∧ ((fourT s k n (p, 0)).2.2 ≠ 0 → (fourT s k n (p, 0)).1 = 0)
  | 0, n, p => by simp [fourT]
  | k + 1, n, p => by
    rw [four_succ]
    rcases Nat.lt_or_ge p s.length with h | h
    · rw [next_at (List.getElem?_eq_getElem h)]
      dsimp only
      split
      · exact ⟨fun hh => by simp [fail_ok] at hh, fun _ => rfl⟩
      · rename_i d hd
        obtain ⟨i1, i2⟩ := four_out (s := s) (k := k) (n := n * 16 + d) (p := p + 1)
        exact ⟨fun hh => by rw [i1 hh]; omega, i2⟩
    · rw [next_none h]
      simp only [low0]
      rw [fail_err (by decide)]
      exact ⟨fun hh => (by simp at hh), fun _ => trivial⟩
theorem dig_or {n d : Nat} (hd : d < 16) : n * 2 ^ 4 ||| d = n * 16 + d := by
  have := Nat.shiftLeft_add_eq_or_of_lt (i := 4) (b := d) (by omega) n
  rw [Nat.shiftLeft_eq] at this
  rw [← this]
theorem esc_none {s : Txt} {p : Nat} (h : s.length ≤ p) : escT s (p, 0) = (0, (p, 2)) := by
  unfold escT
  rw [next_none h]
  dsimp only
  rw [if_pos (by decide)]
theorem esc_at {s : Txt} {p : Nat} {c : UInt8} (h : s[p]? = some c) : escT s (p, 0) = if c = 117 then unitT s (p + 1, 0) else if c = 47 then (47, (p + 1, 0)) else match unletB c.toNat with
    | some n => (n, (p + 1, 0))
    | none => (0, (p + 1, 4)) := by
  unfold escT
  rw [next_at h]
  dsimp only
  rw [if_neg (by simp)]
  rfl
end Go.Ez
namespace Go.Proofs.YtififikdlcohpaaDoor
open Go Go.Ez Go.RowKit Go.Lib
set_option linter.unusedSimpArgs false
set_option linter.unusedVariables false
section
variable {w0 W W' : World} {l R : List As} {RR : Value → World → Prop} {t s : Txt} {c : UInt8} {b n : Nat} {v : Value}
/-- hblref1.Quote -/
theorem rquote_spec (h : St w0 G0 l W) (hs : s.length ≤ 1000000000) (k : ∀ W', St w0 G0 l W' → RR (.tuple #[strV (quoteS s).1, .int .i64 (quoteS s).2]) W') : CallF Tryd.prog 19 #[strV s] W RR := by
  refine sh19_calls ?_
  unfold sh19
  refine rvalid_spec hs (a_not (ifnb (fun hv => ?_) fun hv => ?_))
  · rw [quoteS_no hv] at k
    exact k W h
  rw [quoteS_yes hv] at k
  refine h.lit fun x W ox h => ?_
  refine lpx (α := Nat × Value) (fun A => [A.2, nV .i64 A.1]) (fun A W' => A.1 ≤ s.length ∧ Cel1 A.2 ∧ St w0 G0 (Ky A.2 (BO (34 :: qBs (s.take A.1))) :: l) W') (fun A => s.length - A.1) (0, x) (fun _ => rfl) rfl ⟨Nat.zero_le _, ox, h⟩ ?_
  clear h ox
  rintro next ⟨i, x⟩ W1 hnext ⟨h1, ox, h⟩
  simp only at h1 ox h
  refine app2 ?_
  have hql := qBs_len (s.take i)
  have htl : (s.take i).length ≤ s.length := by rw [List.length_take]; omega
  have hcl : (34 :: qBs (s.take i) : Txt).length = (qBs (s.take i)).length + 1 := rfl
  refine x_len (a_lss (ifd (fun hc => ?_) fun hc => ?_))
  · have hi : i < s.length := by dsimp only at hc; omega
    have ga : s[i]? = some s[i] := List.getElem?_eq_getElem hi
    generalize s[i] = c at ga
    have hcb := c.toNat_lt
    have eq1 : 34 :: qBs (s.take (i + 1)) = 34 :: qBs (s.take i) ++ qB c := by rw [take_next ga, qBs_append, qBs_one]; rfl
    refine x_index ga ?_
    refine jni (fun vs W' => ∃ y, vs = [strV s, y, nV .i64 i] ∧ Cel1 y ∧ St w0 G0 (Ky y (BO (34 :: qBs (s.take i) ++ qB c)) :: l) W') ?_ ?_
    · rintro vs W' _ ⟨y, rfl, oy, h⟩
      refine app3 ?_
      refine a_add64 (by omega) (by omega) ⟨rfl, ?_⟩
      rw [show ((i : Int) + 1) = ((i + 1 : Nat) : Int) by push_cast; rfl]
      refine hnext (i + 1, y) _ (by simp only; omega) ⟨by simp only; omega, oy, ?_⟩
      show St w0 G0 (Ky y (BO (34 :: qBs (s.take (i + 1)))) :: l) W'
      rw [eq1]; exact h
    have hlr := letB_rng c.toNat
    have eb : (UInt8.ofNat (letB c.toNat) = 0) ↔ letB c.toNat = 0 := by
      rw [← UInt8.toNat_inj, UInt8.toNat_ofNat', Nat.mod_eq_of_lt (by omega)]
      rfl
    refine short_spec (x_neB (b := 0) (ifd (fun hx => ?_) fun hx => ?_))
    · refine short_spec ?_
      have eQ : qB c = [92, UInt8.ofNat (letB c.toNat)] := by unfold qB; rw [if_pos (fun e => hx (eb.2 e))]
      refine h.lit fun u W ou h => ?_
      have hu : Sl W 1 u 2 (bytesV [92, UInt8.ofNat (letB c.toNat)]) := h.osl (v := u)
      refine h.app (v := x) hu (bytesV_one _) (by unfold maxLen; omega) (by omega) fun v' W' o' h _ => ⟨v', rfl, o', ?_⟩
      show St w0 G0 (Ky v' (Ow 5 1 (34 :: qBs (s.take i) ++ qB c).length (bytesV (34 :: qBs (s.take i) ++ qB c))) :: l) W'
      rw [eQ, List.length_append, bytesV_append]
      have h2 : St w0 G0 (Ky v' (Ow 5 1 ((34 :: qBs (s.take i)).length + 2) (bytesV (34 :: qBs (s.take i)) ++ bytesV [92, UInt8.ofNat (letB c.toNat)])) :: l) W' := h.to
      exact h2
    · have hx0 : letB c.toNat = 0 := eb.1 (Classical.not_not.1 hx)
      refine jni (fun vs W' => ∃ y, vs = [strV s, y, nV .i64 i] ∧ Cel1 y ∧ St w0 G0 (Ky y (BO (34 :: qBs (s.take i) ++ qB c)) :: l) W') (by rintro vs W' _ ⟨y, rfl, oy, h⟩; exact app3 ⟨y, rfl, oy, h⟩) ?_
      refine a_lss (ifd (fun hy => ?_) fun hy => ?_)
      · refine h.lit fun u W ou h => ?_
        have hu : By W u [c] := h.osl (v := u)
        refine hexr_spec hu (by simp) fun W2 hb => ?_
        replace h := h.ext hb
        have eH : hexS [c] = [hexd (c.toNat / 16), hexd (c.toNat % 16)] := rfl
        rw [eH]
        refine a_cat (l := [92, 117, 48, 48]) (by simp) ?_
        have eQ : qB c = [92, 117, 48, 48] ++ [hexd (c.toNat / 16), hexd (c.toNat % 16)] := by unfold qB; rw [if_neg (by simp [hx0]), if_pos (by omega)]; rfl
        refine h.appS (v := x) (s := [92, 117, 48, 48] ++ [hexd (c.toNat / 16), hexd (c.toNat % 16)]) (by simp only [List.length_append, List.length_cons, List.length_nil]; omega) fun v' W' o' h => ⟨v', rfl, o', ?_⟩
        show St w0 G0 (Ky v' (Ow 5 1 (34 :: qBs (s.take i) ++ qB c).length (bytesV (34 :: qBs (s.take i) ++ qB c))) :: l) W'
        rw [eQ, List.length_append, bytesV_append]
        exact h.to
      · have eQ : qB c = [c] := by unfold qB; rw [if_neg (by simp [hx0]), if_neg (by omega)]
        refine h.push (v := x) (x := byteV c) (by unfold maxLen; omega) (by omega) fun v' W' o' h _ => ⟨v', rfl, o', ?_⟩
        show St w0 G0 (Ky v' (Ow 5 1 (34 :: qBs (s.take i) ++ qB c).length (bytesV (34 :: qBs (s.take i) ++ qB c))) :: l) W'
        rw [eQ, List.length_append, bytesV_append]
        exact h
  · have hi : i = s.length := by dsimp only at hc; omega
    rw [hi, List.take_length] at h hql hcl
    refine h.push (v := x) (x := .int .u8 34) (by unfold maxLen; omega) (by omega) fun v' W' o' h _ => ?_
    refine x_str (l := quoteB s) (v := v') ?_ (k W' h.tail)
    have := h.osl (v := v')
    have e1 : bytesV (34 :: qBs s) ++ [Value.int .u8 34] = bytesV (quoteB s) := by
      unfold quoteB
      rw [← List.cons_append, bytesV_append]; rfl
    have e2 : (34 :: qBs s).length + 1 = (quoteB s).length := by rw [quoteB_len]; rfl
    rw [e1, e2] at this
    exact this
/-- hblref1.four -/
theorem rfour_spec {p : Nat} (hp : p ≤ 100000000000) (hs : s.length ≤ 1000000000) (k : RR (.tuple #[nV .i64 (fourT s 4 0 (p, 0)).1, .int .i64 (fourT s 4 0 (p, 0)).2.2]) W) : CallF Tryd.prog 83 #[strV s, nV .i64 p] W RR := by
  refine sh83_calls ?_
  unfold sh83
  generalize hRES : fourT s 4 0 (p, 0) = RES at k
  refine lpx (α := Nat × Nat) (fun A => [nV .i64 A.2, nV .i64 A.1]) (fun A W' => W' = W ∧ A.1 ≤ 4 ∧ A.2 < 16 ^ A.1 ∧ fourT s (4 - A.1) A.2 (p + A.1, 0) = RES) (fun A => 4 - A.1) (0, 0) (fun _ => rfl) rfl ⟨rfl, by decide, by decide, hRES⟩ ?_
  rintro next ⟨i, n⟩ W1 hnext ⟨rfl, h1, h2, he⟩
  simp only at h1 h2 he
  refine app2 ?_
  have hp4 : 16 ^ i ≤ 16 ^ 4 := Nat.pow_le_pow_right (by decide) h1
  have hp4' : (16 : Nat) ^ 4 = 65536 := by decide
  refine a_lss (ifd (fun hc => ?_) fun hc => ?_)
  · have hi : i < 4 := by dsimp only at hc; omega
    obtain ⟨j, hj⟩ : ∃ j, 4 - i = j + 1 := ⟨3 - i, by omega⟩
    rw [hj, four_succ] at he
    refine a_add64 (by dsimp only; omega) (by dsimp only; omega) ?_
    rw [show ((p : Int) + (i : Int)) = ((p + i : Nat) : Int) by push_cast; rfl]
    refine x_len (a_geq (ifd (fun g => ?_) fun g => ?_))
    · rw [next_none (by omega)] at he
      simp only [low0] at he
      rw [← he] at k
      exact k
    · have hlt : p + i < s.length := by omega
      have ga : s[p + i]? = some s[p + i] := List.getElem?_eq_getElem hlt
      generalize s[p + i] = c at ga
      rw [next_at ga] at he
      refine a_add64 (by dsimp only; omega) (by dsimp only; omega) ?_
      rw [show ((p : Int) + (i : Int)) = ((p + i : Nat) : Int) by push_cast; rfl]
      refine x_index ga (digit_spec ?_)
      rw [digU_low]
      cases hd : dig16 (lowC c) with
      | none =>
        simp only [hd] at he
        refine a_lss (ifd_pos (by decide) ?_)
        rw [← he] at k
        exact k
      | some d =>
        have hd16 := dig16_lt hd
        simp only [hd] at he
        refine a_lss (ifd_neg (by simp only; omega) ?_)
        refine a_shlN (m := 4) (by decide) (le_i64 (by omega)) (a_orN (le_i64 (by omega)) (le_i64 (by omega)) ?_)
        rw [dig_or hd16]
        refine a_add64 (by dsimp only; omega) (by dsimp only; omega) ⟨rfl, rfl, ?_⟩
        rw [show ((i : Int) + 1) = ((i + 1 : Nat) : Int) by push_cast; rfl]
        refine hnext (i + 1, n * 16 + d) _ (by simp only; omega) ⟨rfl, by simp only; omega, ?_, ?_⟩
        · simp only; rw [Nat.pow_succ]; omega
        · simp only; rw [show 4 - (i + 1) = j by omega]; exact he
  · have hi : i = 4 := by dsimp only at hc; omega
    subst hi
    have e2 : RES = (n, (p + 4, 0)) := he.symm
    rw [e2] at k
    exact k
/-- what an escape answers -/
def escR (E : Nat × Pt) : Txt × Nat × Int := if E.2.2 = 0 then (Go.Ez.utf E.1, E.2.1, 0) else ([], 0, E.2.2)
/-- hblref1.escape -/
theorem resc_spec {p : Nat} (h : St w0 G0 l W) (hp : p < s.length) (hs : s.length ≤ 1000000000) (k : ∀ W', St w0 G0 l W' → RR (.tuple #[strV (escR (escT s (p + 1, 0))).1, nV .i64 (escR (escT s (p + 1, 0))).2.1, .int .i64 (escR (escT s (p + 1, 0))).2.2]) W') :
    CallF Tryd.prog 49 #[strV s, nV .i64 p] W RR := by
  refine sh49_calls ?_
  unfold sh49
  refine a_add64 (by omega) (by omega) ?_
  rw [show ((p : Int) + 1) = ((p + 1 : Nat) : Int) by push_cast; rfl]
  refine x_len (a_geq (ifd (fun g => ?_) fun g => ?_))
  · rw [esc_none (by omega)] at k
    exact k W h
  have hlt : p + 1 < s.length := by omega
  refine a_add64 (by omega) (by omega) ?_
  rw [show ((p : Int) + 1) = ((p + 1 : Nat) : Int) by push_cast; rfl]
  have ga : s[p + 1]? = some s[p + 1] := List.getElem?_eq_getElem hlt
  generalize s[p + 1] = c at ga
  have hcb := c.toNat_lt
  refine x_index ga ?_
  rw [esc_at ga] at k
  refine lpx (α := Nat) (fun i => [nV .i64 i]) (fun i W' => i ≤ 128 ∧ (∀ j, j < i → c.toNat ≠ 0 → letB j ≠ c.toNat) ∧ W' = W) (fun i => 128 - i) 0 (fun _ => rfl) rfl ⟨by decide, fun j h => absurd h (Nat.not_lt_zero _), rfl⟩ ?_
  rintro next i W1 hnext ⟨hi, hall, rfl⟩
  refine app1 ?_
  have c0 : c ≠ 0 → c.toNat ≠ 0 := fun hne e => hne (UInt8.toNat_inj.1 e)
  refine a_lss (ifd (fun hc => ?_) fun hc => ?_)
  · have hi2 : i < 128 := by omega
    have go : (c.toNat ≠ 0 → letB i ≠ c.toNat) → appN 1 next [nV .i64 (i + 1 : Nat)] W1 := fun hne => hnext (i + 1) _ (by omega) ⟨by omega, fun j hj hz => by
      by_cases hji : j < i
      · exact hall j hji hz
      · obtain rfl : j = i := by omega
        exact hne hz, rfl⟩
    refine jni (fun vs W' => vs = [strV s, nV .i64 p, byteV c, nV .i64 i] ∧ (c.toNat ≠ 0 → letB i ≠ c.toNat) ∧ W' = W1) ?_ ?_
    · rintro vs W' _ ⟨rfl, hne, rfl⟩
      refine app4 ?_
      refine a_add64 (by omega) (by omega) ⟨rfl, rfl, rfl, ?_⟩
      rw [show ((i : Int) + 1) = ((i + 1 : Nat) : Int) by push_cast; rfl]
      exact go hne
    · refine x_neB (b := 0) (ifd (fun hne => ?_) fun heq => ⟨rfl, fun hz => absurd (by rw [Classical.not_not.1 heq]; rfl) hz, rfl⟩)
      refine v_byte Tryd.underlying3 Tryd.underlying5 (short_spec ?_)
      have ei : (UInt8.ofNat i).toNat = i := by rw [UInt8.toNat_ofNat', Nat.mod_eq_of_lt (by omega)]
      rw [ei]
      have hlr := letB_rng i
      refine x_eqB (ifd (fun he => ?_) fun he => ⟨rfl, fun _ hh => he (by rw [hh]; simp), rfl⟩)
      have hl : letB i = c.toNat := by rw [← he, UInt8.toNat_ofNat', Nat.mod_eq_of_lt (by omega)]
      have hl0 : letB i ≠ 0 := by rw [hl]; exact c0 hne
      obtain ⟨u1, u2, u3, u4, u5⟩ := unlet_let hl0
      rw [hl] at u1 u2 u3
      rw [if_neg (fun e => u2 (by rw [e]; rfl)), if_neg (fun e => u3 (by rw [e]; rfl)), u1] at k
      refine v_byte Tryd.underlying3 Tryd.underlying5 ?_
      refine h.lit fun u W ou h => ?_
      refine x_str (l := [UInt8.ofNat i]) (h.osl (v := u)) ?_
      refine a_add64 (by omega) (by omega) ?_
      have := k W h.to
      unfold escR at this
      rw [if_pos rfl] at this
      dsimp only at this
      rw [utf_1 (a := i) (by omega)] at this
      rw [show ((p : Int) + 2) = ((p + 1 + 1 : Nat) : Int) by push_cast; omega]
      exact this
  obtain rfl : i = 128 := by omega
  clear hc hi hnext
  have add2 : ∀ {m : Nat} {X Y : Operand} {K : Value → Prop}, m ≤ 10 → K (nV .i64 (p + m)) → RunA Tryd.prog (bin .add 3 X Y (nV .i64 p) (nV .i64 m)) K := fun {m X Y K} hm hk => by
    refine a_add64 (by omega) (by omega) ?_
    rw [show ((p : Int) + (m : Int)) = ((p + m : Nat) : Int) by push_cast; rfl]
    exact hk
  refine x_eqB (b := 47) (ifd (fun h47 => ?_) fun h47 => ?_)
  · refine add2 (m := 2) (by decide) ?_
    rw [if_neg (by rw [h47]; decide), if_pos h47] at k
    exact k W1 h
  refine x_neB (b := 117) (ifd (fun h117 => ?_) fun h117 => ?_)
  · have hun : unletB c.toNat = none := by
      by_cases hz : c.toNat = 0
      · rw [hz]; rfl
      · exact unlet_none hz fun j hj => hall j hj hz
    rw [if_neg h117, if_neg h47, hun] at k
    exact k W1 h
  rw [if_pos (Classical.not_not.1 h117)] at k
  refine add2 (m := 2) (by decide) ?_
  refine rfour_spec (p := p + 2) (by omega) hs ?_
  rw [show p + 1 + 1 = p + 2 by omega] at k
  obtain ⟨o1, o2⟩ := four_out (s := s) (k := 4) (n := 0) (p := p + 2)
  have l1 := fourT_lt (s := s) (k := 4) (n := 0) (x := (p + 2, 0))
  generalize hE : unitT s (p + 2, 0) = E at k
  unfold unitT at hE
  simp only [] at hE
  generalize fourT s 4 0 (p + 2, 0) = C at *
  have errE : ∀ {e : Int} {W' : World}, St w0 G0 l W' → E.2.2 = e → e ≠ 0 → RR (.tuple #[strV [], .int .i64 0, .int .i64 e]) W' := fun {e W'} h' h1 h2 => by
    have := k W' h'
    unfold escR at this
    rw [h1, if_neg h2] at this
    exact this
  refine a_ext0 (a_ext1 ?_)
  refine w_neq (ifd (fun ge => ?_) fun ge => ?_)
  · rw [if_pos (.inl ge)] at hE
    exact errE h (by rw [← hE]) ge
  have C20 : C.2.2 = 0 := Classical.not_not.1 ge
  have hat := o1 C20
  have eC : C = (C.1, (p + 6, 0)) := by
    have e1 : C.2.1 = p + 6 := hat
    rw [← e1, ← C20]
  have hC1 : C.1 < 65536 := by omega
  generalize C.1 = N at *
  subst eC
  dsimp only at hE
  clear ge C20 hat o1 o2 l1
  refine add2 (m := 6) (by decide) ?_
  refine jni (fun vs W' => ∃ q n : Nat, vs = [nV .i64 q, nV .i64 n] ∧ ((okSg n ∧ E = (n, (q, 0))) ∨ (¬ okSg n ∧ E.2.2 = 4)) ∧ W' = W1) ?_ ?_
  · rintro vs W' _ ⟨q, n, rfl, hh, rfl⟩
    refine app2 ?_
    refine rtext_spec h fun W h => ?_
    rcases hh with ⟨ho, hEq⟩ | ⟨ho, hEq⟩
    · have hs2 : signS (n : Int) = (Go.Ez.utf n, true) := by unfold signS; rw [if_pos (by unfold okSg at ho; omega), Int.toNat_natCast]
      rw [hs2]
      refine a_ext0 (a_ext1 (a_not (iff' ?_)))
      have := k W h
      unfold escR at this
      rw [hEq, if_pos rfl] at this
      exact this
    · have hs2 : signS (n : Int) = ([], false) := by unfold signS; rw [if_neg (by unfold okSg at ho; omega)]
      rw [hs2]
      refine a_ext0 (a_ext1 (a_not (ift ?_)))
      exact errE h hEq (by decide)
  refine a_geq (ifd (fun g1 => a_leq (ifd (fun g2 => ?_) fun g2 => ?_)) fun g1 => ?_)
  · rw [if_neg (by omega), if_neg (by omega)] at hE
    refine jni (fun vs W' => vs = [strV s, nV .i64 (p + 6), nV .i64 N] ∧ p + 6 < s.length ∧ (s.length ≤ p + 7 → s[p + 6]? ≠ some 92) ∧ W' = W1) ?_ ?_
    · rintro vs W' _ ⟨rfl, hlen, hno, rfl⟩
      refine app3 ?_
      have g6 : s[p + 6]? = some s[p + 6] := List.getElem?_eq_getElem hlen
      generalize s[p + 6] = c6 at g6
      refine x_index g6 (x_neB (b := 92) (ifd (fun hne => ?_) fun heq => ?_))
      · rw [wants_no g6 hne, wants_err (by decide), four_err (by decide), if_pos (.inl (show (0 : Nat) < 56320 by decide)), fail_err (by decide)] at hE
        exact errE h (by rw [← hE]) (by decide)
      have e92 := Classical.not_not.1 heq
      subst e92
      have h7 : p + 7 < s.length := by
        rcases Nat.lt_or_ge (p + 7) s.length with hh | hh
        · exact hh
        · exact absurd g6 (hno hh)
      have g7 : s[p + 7]? = some s[p + 7] := List.getElem?_eq_getElem h7
      generalize s[p + 7] = c7 at g7
      rw [wants_at g6] at hE
      refine a_add64 (by omega) (by omega) ?_
      rw [show (((p + 6 : Nat) : Int) + 1) = ((p + 7 : Nat) : Int) by push_cast; omega]
      refine x_index g7 (x_neB (b := 117) (ifd (fun hne => ?_) fun heq => ?_))
      · rw [wants_no g7 hne, four_err (by decide), if_pos (.inl (show (0 : Nat) < 56320 by decide)), fail_err (by decide)] at hE
        exact errE h (by rw [← hE]) (by decide)
      have e117 := Classical.not_not.1 heq
      subst e117
      rw [wants_at g7] at hE
      refine a_add64 (by omega) (by omega) ?_
      rw [show (((p + 6 : Nat) : Int) + 2) = ((p + 8 : Nat) : Int) by push_cast; omega]
      refine rfour_spec (p := p + 8) (by omega) hs ?_
      rw [show p + 6 + 1 + 1 = p + 8 by omega] at hE
      obtain ⟨o1, o2⟩ := four_out (s := s) (k := 4) (n := 0) (p := p + 8)
      have l1 := fourT_lt (s := s) (k := 4) (n := 0) (x := (p + 8, 0))
      generalize fourT s 4 0 (p + 8, 0) = D at *
      refine a_ext0 (a_ext1 ?_)
      refine w_neq (ifd (fun ge => ?_) fun ge => ?_)
      · have hD0 := o2 ge
        rw [if_pos (.inl (by omega))] at hE
        have : failT 4 D.2 = D.2 := by unfold failT; rw [if_neg ge]
        rw [this] at hE
        exact errE h (by rw [← hE]) ge
      have D20 : D.2.2 = 0 := Classical.not_not.1 ge
      have hat := o1 D20
      have eD : D.2 = (p + 12, 0) := by
        have e1 : D.2.1 = p + 12 := hat
        rw [← e1, ← D20]
      rw [eD] at hE
      refine a_lss (ifd (fun q1 => ?_) fun q1 => ?_)
      · rw [if_pos (.inl (by omega)), fail_ok] at hE
        exact errE h (by rw [← hE]) (by decide)
      refine a_gtr (ifd (fun q2 => ?_) fun q2 => ?_)
      · rw [if_pos (.inr (by omega)), fail_ok] at hE
        exact errE h (by rw [← hE]) (by decide)
      rw [if_neg (by omega)] at hE
      refine a_sub64 (by omega) (by omega) ?_
      rw [show ((N : Int) - 55296) = ((N - 55296 : Nat) : Int) by omega]
      refine a_shlN (m := 10) (by decide) (le_i64 (by omega)) (a_add64 (by omega) (by omega) (a_sub64 (by omega) (by omega) (a_add64 (by omega) (by omega) (a_add64 (by omega) (by omega) ?_))))
      rw [show ((65536 : Int) + (((N - 55296) * 2 ^ 10 : Nat) : Int) + ((D.1 : Int) - 56320)) = ((65536 + (N - 55296) * 1024 + D.1 - 56320 : Nat) : Int) by omega, show (((p + 6 : Nat) : Int) + 6) = ((p + 12 : Nat) : Int) by push_cast; omega]
      exact ⟨p + 12, _, rfl, .inl ⟨by unfold okSg; omega, hE.symm⟩, rfl⟩
    · refine x_len (a_geq (ifd (fun q1 => ?_) fun q1 => ?_))
      · rw [wants_none (by omega), wants_err (by decide), four_err (by decide), if_pos (.inl (show (0 : Nat) < 56320 by decide)), fail_err (by decide)] at hE
        exact errE h (by rw [← hE]) (by decide)
      refine a_add64 (by omega) (by omega) ?_
      rw [show (((p + 6 : Nat) : Int) + 1) = ((p + 7 : Nat) : Int) by push_cast; omega]
      refine x_len (a_geq (ifd (fun q2 => ?_) fun q2 => ⟨rfl, by omega, fun hh => by omega, rfl⟩))
      have hlen : p + 6 < s.length := by omega
      have g6 : s[p + 6]? = some s[p + 6] := List.getElem?_eq_getElem hlen
      generalize s[p + 6] = c6 at g6
      refine x_index g6 (x_eqB (b := 92) (ifd (fun he => ?_) fun hne => ⟨rfl, hlen, fun _ hh => hne (by rw [g6] at hh; exact Option.some.inj hh), rfl⟩))
      subst he
      rw [wants_at g6, wants_none (by omega), four_err (by decide), if_pos (.inl (show (0 : Nat) < 56320 by decide)), fail_err (by decide)] at hE
      exact errE h (by rw [← hE]) (by decide)
  · by_cases h57 : 57343 < N
    · rw [if_pos (.inr (.inr h57))] at hE
      exact ⟨p + 6, N, rfl, .inl ⟨by unfold okSg; omega, hE.symm⟩, rfl⟩
    · rw [if_neg (by omega), if_pos (by omega), fail_ok] at hE
      exact ⟨p + 6, N, rfl, .inr ⟨by unfold okSg; omega, by rw [← hE]⟩, rfl⟩
  · rw [if_pos (.inr (.inl (by omega)))] at hE
    exact ⟨p + 6, N, rfl, .inl ⟨by unfold okSg; omega, hE.symm⟩, rfl⟩
/-- hblref1.Unquote -/
theorem runq_spec {a : Int} (h : St w0 G0 l W) (hs : s.length ≤ 100000000) (k : ∀ W', St w0 G0 l W' → RR (.tuple #[strV (unqS s a).1, nV .i64 (unqS s a).2.1, .int .i64 (unqS s a).2.2]) W') :
    CallF Tryd.prog 20 #[strV s, .int .i64 a] W RR := by
  refine sh20_calls ?_
  unfold sh20
  unfold unqS at k
  refine a_lss (ifd (fun h1 => ?_) fun h1 => ?_)
  · rw [if_pos (.inl h1)] at k; exact k W h
  refine x_len (a_gtr (ifd (fun h2 => ?_) fun h2 => ?_))
  · rw [if_pos (.inr h2)] at k; exact k W h
  rw [if_neg (by omega)] at k
  obtain ⟨a, rfl⟩ := Int.eq_ofNat_of_zero_le (show 0 ≤ a by omega)
  rw [Int.toNat_natCast] at k
  refine x_len (w_eql (ifd (fun h3 => ?_) fun h3 => ?_))
  · rw [wants_none (by omega), show 2 * s.length + 4 = 2 * s.length + 3 + 1 from rfl, unqGo_succ, if_pos (by simp)] at k
    exact k W h
  have hlt : a < s.length := by omega
  have ga : s[a]? = some s[a] := List.getElem?_eq_getElem hlt
  generalize s[a] = c0 at ga
  refine x_index ga (x_neB (b := 34) (ifd (fun hne => ?_) fun heq => ?_))
  · rw [wants_no ga hne, show 2 * s.length + 4 = 2 * s.length + 3 + 1 from rfl, unqGo_succ, if_pos (by simp)] at k
    exact k W h
  have e34 := Classical.not_not.1 heq
  subst e34
  rw [wants_at ga] at k
  generalize hRES : unqGo s (2 * s.length + 4) (a + 1, 0) [] = RES at k
  refine a_add64 (by omega) (by omega) ?_
  rw [show ((a : Int) + 1) = ((a + 1 : Nat) : Int) by push_cast; rfl]
  refine lpx (α := Nat × Nat × Txt) (fun A => [nV .i64 A.2.1, strV A.2.2]) (fun A W' => A.2.1 ≤ s.length ∧ 2 * (s.length - A.2.1) + 2 ≤ A.1 ∧ A.1 ≤ 2 * s.length + 4 ∧ A.2.2.length ≤ 4 * (2 * s.length + 4 - A.1) ∧ unqGo s A.1 (A.2.1, 0) A.2.2 = RES ∧ St w0 G0 l W') (fun A => A.1) (2 * s.length + 4, a + 1, []) (fun _ => rfl) rfl
    ⟨hlt, by simp only; omega, Nat.le_refl _, by simp, hRES, h⟩ ?_
  clear h
  rintro next ⟨f, p, out⟩ W1 hnext ⟨i1, i2, i3, i4, he, h⟩
  simp only at i1 i2 i3 i4 he h
  refine app2 ?_
  obtain ⟨g, rfl⟩ : ∃ g, f = g + 1 := ⟨f - 1, by omega⟩
  rw [unqGo_succ, if_neg (by simp)] at he
  have bad : ∀ {e : Int} {W' : World}, St w0 G0 l W' → RES = ([], 0, e) → RR (.tuple #[strV [], .int .i64 0, .int .i64 e]) W' := fun {e W'} h' hr => by rw [hr] at k; exact k W' h'
  obtain ⟨g, rfl⟩ : ∃ g', g = g' + 1 := ⟨g - 1, by omega⟩
  refine x_len (a_lss (ifd (fun hc => ?_) fun hc => ?_))
  · have hpl : p < s.length := by dsimp only at hc; omega
    have hne := drop_ne hpl
    have hdl : (s.drop p).length = s.length - p := List.length_drop
    have hd : s.drop p = s[p] :: s.drop (p + 1) := List.drop_eq_getElem_cons hpl
    have gp : s[p]? = some s[p] := List.getElem?_eq_getElem hpl
    generalize s[p] = c at hd gp
    refine jni (fun vs W' => ∃ (q : Nat) (o : Txt), vs = [strV s, nV .i64 q, strV o] ∧ q ≤ s.length ∧ p < q ∧ o.length ≤ out.length + 4 ∧ unqGo s (g + 1) (q, 0) o = RES ∧ St w0 G0 l W') ?_ ?_
    · rintro vs W' _ ⟨q, o, rfl, q1, q2, q3, q4, h⟩
      refine app3 ⟨rfl, ?_⟩
      exact hnext (g + 1, q, o) W' (by simp only; omega) ⟨q1, by simp only; omega, by simp only; omega, by simp only; omega, q4, h⟩
    refine x_index gp (x_eqB (b := 34) (ifd (fun h34 => ?_) fun h34 => ?_))
    · subst h34
      rw [sign_low hd (by decide) (by decide)] at he
      dsimp only at he
      rw [if_neg (by simp), if_pos (by decide)] at he
      rw [← he] at k
      refine a_add64 (by dsimp only; omega) (by dsimp only; omega) ?_
      rw [show ((p : Int) + 1) = ((p + 1 : Nat) : Int) by push_cast; rfl]
      exact k W1 h
    refine x_index gp (x_eqB (b := 92) (ifd (fun h92 => ?_) fun h92 => ?_))
    · subst h92
      rw [sign_low hd (by decide) (by decide)] at he
      dsimp only at he
      rw [if_neg (by simp), if_neg (by decide), if_pos (by decide)] at he
      refine resc_spec h hpl (by omega) fun W h => ?_
      obtain ⟨e1, e2, e3⟩ := escT_le (s := s) (x := (p + 1, 0)) (by simp only; omega)
      simp only at e1 e2
      generalize escT s (p + 1, 0) = E at *
      refine a_ext0 (a_ext1 (a_ext2 ?_))
      unfold escR
      by_cases hE0 : E.2.2 = 0
      · rw [if_pos hE0]
        refine w_neq (ifd_neg (by simp) ?_)
        have hul := utf_len E.1
        refine a_cat (by dsimp only; omega) ?_
        refine ⟨E.2.1, _, rfl, e1, by omega, by rw [List.length_append]; dsimp only; omega, ?_, h⟩
        rw [← he]
        congr 1
        rw [← hE0]
      · rw [if_neg hE0]
        refine w_neq (ifd_pos hE0 ?_)
        rw [unqGo_succ, if_pos hE0] at he
        exact bad h he.symm
    · refine rsgn_spec hpl (by omega) ?_
      unfold sgR
      have hcb := c.toNat_lt
      by_cases hb : badL (s.drop p)
      · rw [if_pos hb]
        refine a_ext0 (a_ext1 (a_ext2 (a_not (ift ?_))))
        have hsg : signT s (p, 0) = (0, (p, 4)) := by
          unfold signT
          rw [if_neg (by simp only; omega), if_pos (.inr hb)]
          rfl
        rw [hsg] at he
        dsimp only at he
        rw [if_pos (by decide), unqGo_succ, if_pos (by simp)] at he
        exact bad h he.symm
      · rw [if_neg hb]
        refine a_ext0 (a_ext1 (a_ext2 (a_not (iff' ?_))))
        refine x_index gp (a_lss (ifd (fun h32 => ?_) fun h32 => ?_))
        · have hsg : signT s (p, 0) = (0, (p, 4)) := by
            unfold signT
            rw [if_neg (by simp only; omega), if_pos (.inl (by simp only; rw [hd, dec_ascii (by omega)]; omega))]
            rfl
          rw [hsg] at he
          dsimp only at he
          rw [if_pos (by decide), unqGo_succ, if_pos (by simp)] at he
          exact bad h he.symm
        · obtain ⟨f1, f2, f3, f4⟩ := dec_facts (s.drop p) hne
          have hw := f1 hb
          have n34 : c.toNat ≠ 34 := fun e => h34 (UInt8.toNat_inj.1 e)
          have n92 : c.toNat ≠ 92 := fun e => h92 (UInt8.toNat_inj.1 e)
          have hut : Go.Ez.utf (decodeL (s.drop p)).1 = (s.drop p).take (decodeL (s.drop p)).2 := encode_decode _ hne hb
          have hv : 32 ≤ (decodeL (s.drop p)).1 ∧ (decodeL (s.drop p)).1 ≠ 34 ∧ (decodeL (s.drop p)).1 ≠ 92 := by
            rcases sign_cases hne hb with ⟨c', r', e1, e2, e3⟩ | ⟨g1, _⟩
            · rw [hd] at e1
              obtain ⟨rfl, _⟩ := List.cons.inj e1
              rw [e3]
              exact ⟨by simp only; omega, n34, n92⟩
            · omega
          have hsg : signT s (p, 0) = ((decodeL (s.drop p)).1, (p + (decodeL (s.drop p)).2, 0)) := by
            unfold signT
            rw [if_neg (by simp only; omega), if_neg]
            rintro (q | q)
            · simp only at q; omega
            · exact hb q
          rw [hsg] at he
          dsimp only at he
          rw [if_neg (by simp), if_neg hv.2.1, if_neg hv.2.2] at he
          have hul := utf_len (decodeL (s.drop p)).1
          rw [hut] at he hul
          have hwl : p + (decodeL (s.drop p)).2 ≤ s.length := by omega
          have htl : ((s.drop p).take (decodeL (s.drop p)).2).length ≤ 4 := hul.2
          generalize decodeL (s.drop p) = D at *
          refine a_add64 (by dsimp only; omega) (by dsimp only; omega) ?_
          rw [show ((p : Int) + (D.2 : Int)) = ((p + D.2 : Nat) : Int) by push_cast; rfl]
          refine x_cut (lo := p) (hi := p + D.2) (Nat.le_add_right _ _) hwl ?_
          rw [show p + D.2 - p = D.2 by omega]
          refine a_cat (by dsimp only; omega) ?_
          refine a_add64 (by dsimp only; omega) (by dsimp only; omega) ?_
          rw [show ((p : Int) + (D.2 : Int)) = ((p + D.2 : Nat) : Int) by push_cast; rfl]
          exact ⟨p + D.2, _, rfl, by omega, by omega, (by rw [List.length_append]; exact Nat.add_le_add_left htl _), he, h⟩
  · have hp : p = s.length := by dsimp only at hc; omega
    have hsg : signT s (p, 0) = (0, (p, 2)) := by
      unfold signT
      rw [if_pos (by simp only; omega)]
      rfl
    rw [hsg] at he
    dsimp only at he
    rw [if_pos (by decide), unqGo_succ, if_pos (by simp)] at he
    exact bad h he.symm
/-- hbllaw3.TextReads -/
theorem reads3_spec {u : Txt} {a sg : Int} (hT : Tabs w0) (h : St w0 G0 l W) (k : ∀ W', St w0 G0 l W' → RR (.bool true) W') : CallF Tryd.prog 6 #[strV s, strV u, .int .i64 a, .int .i64 sg] W RR := by
  refine sh6_calls ?_
  unfold sh6
  refine first3_spec hT h fun W h => ?_
  refine a_not (iff' ?_)
  refine x_len (a_gtr (ifd (fun _ => first3_spec hT h k) fun c1 => ?_))
  refine x_len (a_gtr (ifd (fun _ => first3_spec hT h k) fun c2 => ?_))
  refine tquote_spec hT h (by omega) fun W h => a_ext0 (a_ext1 ?_)
  refine rquote_spec h (by omega) fun W h => a_ext0 (a_ext1 ?_)
  refine tunq_spec hT h (by omega) fun W h => a_ext0 (a_ext1 (a_ext2 ?_))
  refine runq_spec h (by omega) fun W h => a_ext0 (a_ext1 (a_ext2 ?_))
  refine tsign_spec (a_ext0 (a_ext1 ?_))
  refine rtext_spec h fun W h => a_ext0 (a_ext1 ?_)
  refine first3_spec hT h fun W h => ift ?_
  refine tvalid_spec hT h (by omega) fun W h => rvalid_spec (by omega) (x_eqb ?_)
  rw [beq_self_eq_true]
  refine ift ?_
  refine tcount_spec hT h (by omega) fun W h => rcount_spec (by omega) (w_eql (ifd_pos rfl ?_))
  refine w_eqlL (ifd_pos rfl (w_eql (ifd_pos rfl ?_)))
  refine w_eqlL (ifd_pos rfl (w_eql (ifd_pos rfl (w_eql (ifd_pos rfl ?_)))))
  refine w_eqlL (ifd_pos rfl (x_eqb ?_))
  rw [beq_self_eq_true]
  exact k W h
end
end Go.Proofs.YtififikdlcohpaaDoor
