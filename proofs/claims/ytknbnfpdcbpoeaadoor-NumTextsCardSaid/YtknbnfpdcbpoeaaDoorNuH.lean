/-
  NUMBERS: bytes in sixteens, told and read; the document's sum: what each answers.
-/
import Derived.Test.YtknbnfpdcbpoeaaDoorNuE
import Derived.Test.YtknbnfpdcbpoeaaDoorBuN
namespace Go.Ez
open Go Go.Lib
set_option linter.unusedSimpArgs false
set_option linter.unusedVariables false
def digs16 : Txt := [48, 49, 50, 51, 52, 53, 54, 55, 56, 57, 97, 98, 99, 100, 101, 102]
def hexd (n : Nat) : UInt8 := digs16.getD n 0
theorem hexd_at {n : Nat} (h : n < 16) : digs16[n]? = some (hexd n) := by
  unfold hexd
  rw [List.getD_eq_getElem?_getD, List.getElem?_eq_getElem (show n < digs16.length from h)]; rfl
def dig16 (c : UInt8) : Option Nat := if 48 ≤ c.toNat ∧ c.toNat ≤ 57 then some (c.toNat - 48) else if 97 ≤ c.toNat ∧ c.toNat ≤ 102 then some (c.toNat - 87) else none
/-- capitals too -/
def digU (c : UInt8) : Option Nat := if 48 ≤ c.toNat ∧ c.toNat ≤ 57 then some (c.toNat - 48) else if 97 ≤ c.toNat ∧ c.toNat ≤ 102 then some (c.toNat - 87) else if 65 ≤ c.toNat ∧ c.toNat ≤ 70 then some (c.toNat - 55) else none
theorem dig16_idx (c : UInt8) : firstIdx ⟨digs16.toArray⟩ c = match dig16 c with | some d => (d : Int) | none => -1 := by
  have : ∀ n : Fin 256, firstIdx ⟨digs16.toArray⟩ (UInt8.ofNat n.val) = match dig16 (UInt8.ofNat n.val) with | some d => (d : Int) | none => -1 := by decide +kernel
  have h := this ⟨c.toNat, c.toNat_lt⟩
  simpa using h
theorem dig16_lt {c : UInt8} {d : Nat} (h : dig16 c = some d) : d < 16 ∧ hexd d = c ∧ digU c = some d := by
  have : ∀ n : Fin 256, ∀ d : Fin 256, dig16 (UInt8.ofNat n.val) = some d.val → d.val < 16 ∧ hexd d.val = UInt8.ofNat n.val ∧ digU (UInt8.ofNat n.val) = some d.val := by decide +kernel
  have hd : d < 256 := by
    unfold dig16 at h
    have := c.toNat_lt
    split at h
    · cases h; omega
    · split at h
      · cases h; omega
      · cases h
  have h2 := this ⟨c.toNat, c.toNat_lt⟩ ⟨d, hd⟩
  simp only [UInt8.ofNat_toNat] at h2
  exact h2 h
theorem digU_lt {c : UInt8} {d : Nat} (h : digU c = some d) : d < 16 := by
  unfold digU at h
  split at h
  · cases h; omega
  · split at h
    · cases h; omega
    · split at h
      · cases h; omega
      · cases h
theorem hexd_dig {n : Nat} (h : n < 16) : dig16 (hexd n) = some n := (by decide : ∀ m : Fin 16, dig16 (hexd m.val) = some m.val) ⟨n, h⟩
def hexB (b : UInt8) : Txt := [hexd (b.toNat / 16), hexd (b.toNat % 16)]
def hexS (l : Txt) : Txt := l.flatMap hexB
theorem hexS_cons (b : UInt8) (l : Txt) : hexS (b :: l) = hexd (b.toNat / 16) :: hexd (b.toNat % 16) :: hexS l := rfl
theorem hexS_snoc (l : Txt) (b : UInt8) : hexS (l ++ [b]) = hexS l ++ hexB b := by simp [hexS]
theorem hexS_len : ∀ l : Txt, (hexS l).length = 2 * l.length
  | [] => rfl
  | b :: l => by rw [hexS_cons, List.length_cons, List.length_cons, hexS_len l, List.length_cons]; omega
/-- sixteens read by a reader of digits -/
def unh (f : UInt8 → Option Nat) : Txt → Option Txt
  | [] => some []
  | [_] => some []
  | a :: b :: t => match f a with
    | none => none
    | some x => match f b with
      | none => none
      | some y => (unh f t).map (UInt8.ofNat (x * 16 + y) :: ·)
def unhR (s : Txt) : Option Txt := if s.length % 2 = 0 then unh dig16 s else none
def unhD (s : Txt) : Option Txt := match unh digU s with
  | none => none
  | some o => if hexS o = s then some o else none
theorem unh_hex : ∀ l : Txt, unh dig16 (hexS l) = some l
  | [] => rfl
  | b :: l => by
    have hb := b.toNat_lt
    rw [hexS_cons, unh, hexd_dig (by omega), hexd_dig (by omega)]
    simp only
    rw [unh_hex l]
    have : UInt8.ofNat (b.toNat / 16 * 16 + b.toNat % 16) = b := by
      rw [show b.toNat / 16 * 16 + b.toNat % 16 = b.toNat by omega]; simp
    rw [this]; rfl
theorem unhR_hex (l : Txt) : unhR (hexS l) = some l := by unfold unhR; rw [if_pos (by rw [hexS_len]; omega), unh_hex]
theorem unh_back : ∀ {s o : Txt}, s.length % 2 = 0 → unh dig16 s = some o → hexS o = s ∧ unh digU s = some o
  | [], o, _, h => by cases h; exact ⟨rfl, rfl⟩
  | [_], o, hl, _ => by simp at hl
  | a :: b :: t, o, hl, h => by
    unfold unh at h ⊢
    cases ha : dig16 a with
    | none => rw [ha] at h; cases h
    | some x =>
      cases hb : dig16 b with
      | none => rw [ha, hb] at h; cases h
      | some y =>
        rw [ha, hb] at h
        simp only at h
        cases ht : unh dig16 t with
        | none => rw [ht] at h; cases h
        | some o' =>
          rw [ht] at h
          cases h
          obtain ⟨i1, i2⟩ := unh_back (s := t) (by simp at hl; omega) ht
          obtain ⟨x1, x2, x3⟩ := dig16_lt ha
          obtain ⟨y1, y2, y3⟩ := dig16_lt hb
          rw [x3, y3]
          simp only
          rw [i2]
          refine ⟨?_, rfl⟩
          have e : (UInt8.ofNat (x * 16 + y)).toNat = x * 16 + y := nu8 (by omega)
          rw [hexS_cons, e, show (x * 16 + y) / 16 = x by omega, show (x * 16 + y) % 16 = y by omega, x2, y2, i1]
theorem unhD_R (s : Txt) : unhD s = unhR s := by
  have key : ∀ o, unhR s = some o → hexS o = s ∧ unh digU s = some o := fun o h => by
    unfold unhR at h
    split at h
    · rename_i hl; exact unh_back hl h
    · cases h
  unfold unhD
  cases hd : unh digU s with
  | none =>
    simp only
    cases hr : unhR s with
    | none => rfl
    | some o => rw [(key o hr).2] at hd; cases hd
  | some o =>
    simp only
    split
    · rename_i he; rw [← he, unhR_hex]
    · rename_i he
      cases hr : unhR s with
      | none => rfl
      | some o2 =>
        obtain ⟨k1, k2⟩ := key o2 hr
        rw [k2] at hd
        cases hd
        exact absurd k1 he
theorem unh_step (f : UInt8 → Option Nat) {s : Txt} {i : Nat} {a b : UInt8} (ha : s[i]? = some a) (hb : s[i + 1]? = some b) : s.drop i = a :: b :: s.drop (i + 2) := by
  have h1 := (List.getElem?_eq_some_iff.1 ha).1
  have h2 := (List.getElem?_eq_some_iff.1 hb).1
  rw [List.drop_eq_getElem_cons h1, List.drop_eq_getElem_cons h2]
  rw [List.getElem?_eq_getElem h1] at ha
  rw [List.getElem?_eq_getElem h2] at hb
  cases ha; cases hb; rfl
theorem unh_len (f : UInt8 → Option Nat) : ∀ {s o : Txt}, unh f s = some o → 2 * o.length ≤ s.length
  | [], o, h => by cases h; simp
  | [_], o, h => by cases h; simp
  | a :: b :: t, o, h => by
    unfold unh at h
    split at h
    · cases h
    · split at h
      · cases h
      · cases ht : unh f t with
        | none => rw [ht] at h; cases h
        | some o' =>
          rw [ht] at h
          cases h
          have := unh_len f ht
          simp only [List.length_cons]; omega
end Go.Ez
namespace Go.Proofs.YtknbnfpdcbpoeaaDoor
open Go Go.Ez Go.RowKit Go.Lib
set_option linter.unusedSimpArgs false
set_option linter.unusedVariables false
section
variable {w0 W W' : World} {l R : List As} {RR : Value → World → Prop} {t s : Txt} {c : UInt8} {b n : Nat} {v : Value}
/-- what is read of two digits -/
theorem pair_or {x y : Nat} (hx : x < 16) (hy : y < 16) : x * 2 ^ 4 ||| y = x * 16 + y := by
  have : ∀ p q : Fin 16, p.val * 2 ^ 4 ||| q.val = p.val * 16 + q.val := by decide
  exact this ⟨x, hx⟩ ⟨y, hy⟩
/-- num.Unhex -/
theorem unhex_spec (h : St w0 G0 l W) (hs : s.length ≤ 1000000000) (k : ∀ v W', Cel1 v → St w0 G0 (Ky v (BO ((unhR s).getD [])) :: l) W' → RR (.tuple #[v, .bool (unhR s).isSome]) W') : CallF Tryd.prog 18 #[strV s] W RR := by
  refine sh18_calls ?_
  unfold sh18
  unfold unhR at k
  refine x_len (a_rem64 (by omega) (by decide) ?_)
  refine w_neq (ifd (fun hc => ?_) fun hc => ?_)
  · rw [if_neg (by omega)] at k
    exact k _ _ ⟨rfl⟩ h.nilOw
  have hev : s.length % 2 = 0 := by omega
  rw [if_pos hev] at k
  generalize hRES : unh dig16 s = RES at k
  refine lpx (α := Nat × Txt × Value) (fun A => [A.2.2, nV .i64 A.1]) (fun A W' => A.1 ≤ s.length ∧ A.1 % 2 = 0 ∧ A.2.1.length ≤ A.1 ∧ (unh dig16 (s.drop A.1)).map (A.2.1 ++ ·) = RES ∧ Cel1 A.2.2 ∧ St w0 G0 (Ky A.2.2 (BO A.2.1) :: l) W') (fun A => s.length - A.1) (0, [], .slice none 0 0) (fun _ => rfl) rfl
    ⟨Nat.zero_le _, rfl, Nat.le_refl _, by rw [List.drop_zero, hRES]; cases RES <;> rfl, ⟨rfl⟩, h.nilOw⟩ ?_
  clear h
  rintro next ⟨i, p, v⟩ W1 hnext ⟨h1, h2, h3, he, o, h⟩
  simp only at h1 h2 h3 he o h
  refine app2 ?_
  refine x_len (a_lss (ifd (fun hc => ?_) fun hc => ?_))
  · have hi : i + 1 < s.length := by dsimp only at hc; omega
    have ga : s[i]? = some s[i] := List.getElem?_eq_getElem (by omega)
    have gb : s[i + 1]? = some s[i + 1] := List.getElem?_eq_getElem hi
    generalize s[i] = a at ga
    generalize s[i + 1] = bb at gb
    rw [unh_step dig16 ga gb] at he
    unfold unh at he
    refine ⟨fun _ => True, trivial, ?_⟩
    replace h := h.drew
    refine x_index ga (a_add64 (by omega) (by omega) ?_)
    rw [show ((i : Int) + 1) = ((i + 1 : Nat) : Int) by push_cast; rfl]
    refine x_index gb ?_
    refine idxByte_spec (t := digs16) (c := a) (idxByte_spec (t := digs16) (c := bb) ?_)
    rw [dig16_idx, dig16_idx]
    cases ha : dig16 a with
    | none =>
      rw [ha] at he
      simp only at he
      refine a_lss (ifd_pos (by decide) ?_)
      rw [← he] at k
      exact k _ _ ⟨rfl⟩ (h.to (l' := l)).nilOw
    | some x =>
      have hx := (dig16_lt ha).1
      rw [ha] at he
      simp only at he
      refine a_lss (ifd_neg (by simp only; omega) ?_)
      cases hb : dig16 bb with
      | none =>
        rw [hb] at he
        simp only at he
        refine a_lss (ifd_pos (by decide) ?_)
        rw [← he] at k
        exact k _ _ ⟨rfl⟩ (h.to (l' := l)).nilOw
      | some y =>
        have hy := (dig16_lt hb).1
        rw [hb] at he
        simp only at he
        refine a_lss (ifd_neg (by simp only; omega) ?_)
        refine a_shlN (m := 4) (by decide) (le_i64 (by omega)) ?_
        refine a_orN (le_i64 (by omega)) (le_i64 (by omega)) ?_
        rw [pair_or hx hy]
        refine v_byte Tryd.underlying3 Tryd.underlying5 ?_
        refine h.push (v := v) (x := byteV (UInt8.ofNat (x * 16 + y))) (by unfold maxLen; omega) (by omega) fun v' W' o' h _ => ?_
        refine a_add64 (by omega) (by omega) ⟨rfl, ?_⟩
        rw [show ((i : Int) + 2) = ((i + 2 : Nat) : Int) by push_cast; rfl]
        refine hnext (i + 2, p ++ [UInt8.ofNat (x * 16 + y)], v') W' (by simp only; omega) ⟨by simp only; omega, by simp only; omega, by simp only; rw [List.length_append, List.length_singleton]; omega, ?_, o', ?_⟩
        · simp only
          rw [← he, Option.map_map]
          congr 1
          funext z
          simp
        · show St w0 G0 (Ky v' (Ow 5 1 (p ++ [UInt8.ofNat (x * 16 + y)]).length (bytesV (p ++ [UInt8.ofNat (x * 16 + y)]))) :: l) W'
          rw [List.length_append, bytesV_append]
          exact h
  · have hi : i = s.length := by dsimp only at hc; omega
    rw [hi, List.drop_length] at he
    have he2 : some p = RES := by rw [← he]; simp [unh]
    rw [← he2] at k
    exact k v W1 o h
/-- num.Hex -/
theorem hex_spec {q : Txt} (h : St w0 G0 l W) (hv : By w0 v q) (hl : q.length ≤ 1000000000) (k : ∀ W', St w0 G0 l W' → RR (strV (hexS q)) W') : CallF Tryd.prog 20 #[v] W RR := by
  refine sh20_calls ?_
  unfold sh20
  refine h.allocS fun b W h => ?_
  replace h := buNew h
  refine x_lenS hv ?_
  refine lpx (α := Nat) (fun i => [nV .i64 i]) (fun i W' => i ≤ q.length ∧ St w0 G0 (Ky b (Bu (hexS (q.take i))) :: l) W') (fun i => q.length - i) 0 (fun _ => rfl) rfl ⟨Nat.zero_le _, h⟩ ?_
  clear h
  rintro next i W1 hnext ⟨h1, h⟩
  refine app1 ?_
  refine a_lss (ifd (fun hc => ?_) fun hc => ?_)
  · have hi : i < q.length := by omega
    have ga : q[i]? = some q[i] := List.getElem?_eq_getElem hi
    generalize q[i] = a at ga
    have ha := a.toNat_lt
    have htl : (q.take i).length = i := by rw [List.length_take]; omega
    have hxl := hexS_len (q.take i)
    refine x_at (hv.below h.low) (bytesV_at ga) ?_
    refine a_shrN (m := 4) (by decide) ?_
    refine x_index (l := digs16) (hexd_at (by omega)) ?_
    refine wbyte_spec h (by omega) fun W h => ?_
    refine a_andN (n := a.toNat) (m := 15) (le_u8 ha) (le_u8 (by decide)) ?_
    have e15 : a.toNat &&& 15 = a.toNat % 16 := Nat.and_two_pow_sub_one_eq_mod a.toNat 4
    rw [e15]
    refine x_index (l := digs16) (hexd_at (by omega)) ?_
    refine wbyte_spec h (by rw [List.length_append, List.length_singleton]; omega) fun W h => ?_
    refine a_add64 (by omega) (by omega) ⟨rfl, rfl, rfl, ?_⟩
    rw [show ((i : Int) + 1) = ((i + 1 : Nat) : Int) by push_cast; rfl]
    refine hnext (i + 1) _ (by omega) ⟨by omega, ?_⟩
    have e : hexS (q.take (i + 1)) = hexS (q.take i) ++ [hexd (a.toNat / 2 ^ 4)] ++ [hexd (a.toNat % 16)] := by
      rw [take_snoc ga, hexS_snoc, List.append_assoc]; rfl
    rw [e]
    exact h
  · have hi : i = q.length := by omega
    rw [hi, List.take_length] at h
    refine bstr_spec h (by rw [hexS_len]; omega) fun W h => ?_
    exact k W h
end
end Go.Proofs.YtknbnfpdcbpoeaaDoor
