/-
  TEXTS: Valid, Count, Quote: what each answers.
-/
import Derived.Test.YtififikdlcohpaaDoorTtA
import Derived.Test.YtififikdlcohpaaDoorTtP
import Derived.Test.YtififikdlcohpaaDoorEzUt
import Derived.Test.YtififikdlcohpaaDoorTtShf
namespace Go.Proofs.YtififikdlcohpaaDoor
open Go Go.Ez Go.RowKit Go.Lib
set_option linter.unusedSimpArgs false
set_option linter.unusedVariables false
/-- the tables as they are laid -/
abbrev Tabs (w : World) : Prop := Utf8Tabs 0 1 w
theorem callF_of {g : FuncId} {args : Array Value} {w : World} {Q : Ending → World → Prop} {R : Value → World → Prop} (h : Calls Tryd.prog g args w Q) (k : ∀ e w', Q e w' → ∃ v, e = .returned v ∧ R v w') : CallF Tryd.prog g args w R := Calls.mono h k
section
variable {w0 W W' : World} {l R : List As} {RR : Value → World → Prop} {t s : Txt} {c : UInt8} {b n : Nat} {v : Value}
theorem tabs_at {l : List As} (hT : Tabs w0) (h : St w0 G0 l W) : Tabs W := Utf8Tabs_below hT h.low
theorem size_le {s : Txt} (hl : s.length ≤ 9223372036854775807) : (⟨s.toArray⟩ : ByteArray).size ≤ 9223372036854775807 := by show s.toArray.size ≤ _; simpa using hl
theorem valid_spec (hT : Tabs w0) (h : St w0 G0 l W) (hl : s.length ≤ 9223372036854775807) (k : ∀ W', St w0 G0 l W' → RR (.bool (validD s)) W') : CallF Tryd.prog 41 #[strV s] W RR :=
  callF_of (Any.utf8_ValidString Tryd.lays196 ⟨s.toArray⟩ W (size_le hl) (tabs_at hT h)) fun e W' hq => ⟨_, hq.1, k W' (h.ext hq.2)⟩
theorem tvalid_spec (hT : Tabs w0) (h : St w0 G0 l W) (hl : s.length ≤ 9223372036854775807) (k : ∀ W', St w0 G0 l W' → RR (.bool (validD s)) W') : CallF Tryd.prog 15 #[strV s] W RR := by
  refine sh15_calls ?_
  unfold sh15
  exact valid_spec hT h hl k
theorem runes_spec (h : St w0 G0 l W) (hl : s.length < 9223372036854775807) (k : ∀ W', St w0 G0 l W' → RR (nV .i64 (runeCountL s)) W') : CallF Tryd.prog 42 #[strV s] W RR :=
  callF_of (Any.utf8_RuneCountInString Tryd.lays195 ⟨s.toArray⟩ W (by show s.toArray.size < _; simpa using hl)) fun e W' hq => by
    obtain ⟨he, pos, rfl⟩ := hq
    exact ⟨_, he, k _ (h.ext ((Below.refl _ W).alloc (Nat.le_refl _) _))⟩
theorem dec_spec (hT : Tabs w0) (h : St w0 G0 l W) (hs : s ≠ []) (k : ∀ W', St w0 G0 l W' → RR (.tuple #[nV .i32 (decodeL s).1, nV .i64 (decodeL s).2]) W') : CallF Tryd.prog 81 #[strV s] W RR :=
  callF_of (Any.utf8_DecodeRuneInString Tryd.lays197 ⟨s.toArray⟩ W (tabs_at hT h)) fun e W' hq => by
    have hd : decodeGo ⟨s.toArray⟩ = decodeL s := by
      unfold decodeGo decodeL
      rw [if_neg]
      show ¬ s.toArray.size = 0
      simpa using hs
    rw [hd] at hq
    exact ⟨_, hq.1, k W' (h.ext hq.2)⟩
theorem tcount_spec (hT : Tabs w0) (h : St w0 G0 l W) (hl : s.length < 9223372036854775807) (k : ∀ W', St w0 G0 l W' → RR (.int .i64 (countS s)) W') : CallF Tryd.prog 16 #[strV s] W RR := by
  refine sh16_calls ?_
  unfold sh16
  unfold countS at k
  refine tvalid_spec hT h (by omega) fun W h => a_not (ifnb (fun hv => ?_) fun hv => ?_)
  · rw [hv] at k; exact k W h
  · rw [hv] at k; exact runes_spec h hl k
def shortL : Txt := [34, 34, 92, 92, 8, 98, 12, 102, 10, 110, 13, 114, 9, 116]
theorem short_at : ∀ i, i < 7 → ∃ a b, shortL[2 * i]? = some a ∧ shortL[2 * i + 1]? = some b ∧ letB a.toNat = b.toNat ∧ b ≠ 0 := by
  intro i hi
  match i, hi with
  | 0, _ | 1, _ | 2, _ | 3, _ | 4, _ | 5, _ | 6, _ => exact ⟨_, _, rfl, rfl, by decide, by decide⟩
theorem letB_no {n : Nat} (h : ∀ i, i < 7 → ∀ a, shortL[2 * i]? = some a → a.toNat ≠ n) : letB n = 0 := by
  have h0 := h 0 (by decide) _ rfl; have h1 := h 1 (by decide) _ rfl; have h2 := h 2 (by decide) _ rfl; have h3 := h 3 (by decide) _ rfl; have h4 := h 4 (by decide) _ rfl; have h5 := h 5 (by decide) _ rfl; have h6 := h 6 (by decide) _ rfl
  unfold letB
  rw [if_neg (fun e => h0 (by rw [e]; rfl)), if_neg (fun e => h1 (by rw [e]; rfl)), if_neg (fun e => h2 (by rw [e]; rfl)), if_neg (fun e => h3 (by rw [e]; rfl)), if_neg (fun e => h4 (by rw [e]; rfl)), if_neg (fun e => h5 (by rw [e]; rfl)), if_neg (fun e => h6 (by rw [e]; rfl))]
theorem letter_spec (hn : n ≤ 2147483647) (k : RR (byteV (UInt8.ofNat (letB n))) W) : CallF Tryd.prog 37 #[nV .i32 n] W RR := by
  refine sh37_calls ?_
  unfold sh37
  refine lpx (α := Nat) (fun i => [nV .i64 (2 * i)]) (fun i W' => i ≤ 7 ∧ (∀ j, j < i → ∀ a, shortL[2 * j]? = some a → a.toNat ≠ n) ∧ W' = W) (fun i => 7 - i) 0 (fun _ => rfl) rfl ⟨by decide, fun j h => absurd h (Nat.not_lt_zero _), rfl⟩ ?_
  rintro next i W1 hnext ⟨hi, hall, rfl⟩
  refine app1 ?_
  refine a_lss (ifd (fun hc => ?_) fun hc => ?_)
  · obtain ⟨a, b, ha, hb, e, hb0⟩ := short_at i (by omega)
    refine x_index (l := shortL) ha ?_
    refine v_ofByte Tryd.underlying5 Tryd.underlying21 (by decide) ?_
    refine w_eql (ifd (fun he => ?_) fun he => ?_)
    · refine a_add64 (by omega) (by omega) ?_
      rw [show ((2 * i : Nat) : Int) + 1 = ((2 * i + 1 : Nat) : Int) by omega]
      refine x_index (l := shortL) hb ?_
      have : n = a.toNat := by omega
      rw [this, e] at k
      have e2 : UInt8.ofNat b.toNat = b := by simp
      rw [e2] at k
      exact k
    · refine a_add64 (by omega) (by omega) ⟨rfl, ?_⟩
      rw [show ((2 * i : Nat) : Int) + 2 = ((2 * (i + 1) : Nat) : Int) by omega]
      refine hnext (i + 1) _ (by omega) ⟨by omega, fun j hj a' ha' => ?_, rfl⟩
      by_cases hji : j < i
      · exact hall j hji a' ha'
      · obtain rfl : j = i := by omega
        rw [ha] at ha'; cases ha'; omega
  · obtain rfl : i = 7 := by omega
    rw [letB_no hall] at k
    exact k
theorem hexd_at {n : Nat} (h : n < 16) : digs16[n]? = some (hexd n) := by
  unfold hexd
  rw [List.getD_eq_getElem?_getD, List.getElem?_eq_getElem (show n < digs16.length from h)]; rfl
/-- Quote -/
theorem tquote_spec (hT : Tabs w0) (h : St w0 G0 l W) (hl : s.length ≤ 10000000000) (k : ∀ W', St w0 G0 l W' → RR (.tuple #[strV (quoteS s).1, .int .i64 (quoteS s).2]) W') : CallF Tryd.prog 14 #[strV s] W RR := by
  refine sh14_calls ?_
  unfold sh14
  unfold quoteS at k
  refine tvalid_spec hT h (by omega) fun W h => a_not (ifnb (fun hv => ?_) fun hv => ?_)
  · rw [hv] at k; exact k W h
  rw [hv] at k
  simp only [if_true] at k
  refine h.allocS fun b W h => ?_
  replace h := buNew h
  refine wbyte_spec (c := 34) h (by simp) fun W h => ?_
  refine h.range fun q W h => ?_
  refine lpx (α := Nat) (fun i => []) (fun i W' => i ≤ s.length ∧ validD (s.drop i) = true ∧ St w0 G0 (Ky q (Ob (.stringIter ⟨s.toArray⟩ i)) :: Ky b (Bu (34 :: qBs (s.take i))) :: l) W') (fun i => s.length - i) 0 (fun _ => rfl) rfl ⟨Nat.zero_le _, hv, h⟩ ?_
  clear h
  rintro next i W1 hnext ⟨hi, hvi, h⟩
  refine app0 ?_
  have hql := qBs_len (s.take i)
  have hti : (s.take i).length ≤ s.length := by rw [List.length_take]; omega
  by_cases hil : i < s.length
  · refine h.next hil fun W h => ?_
    rw [decode_drop] at h ⊢
    have hne : s.drop i ≠ [] := by intro e; have := congrArg List.length e; rw [List.length_drop] at this; simp at this; omega
    obtain ⟨hg, hvn⟩ := valid_next hne hvi
    rw [List.drop_drop] at hvn
    refine a_ext0 (ift (a_ext2 ?_))
    rcases sign_cases hne hg with ⟨c, r, hcr, hc, hd⟩ | ⟨g1, g2, g3, g4, g5, g6, g7⟩
    · rw [hd] at h hvn ⊢
      have hti1 : s.take (i + 1) = s.take i ++ [c] := by
        rw [List.take_add_one]
        congr 1
        have : (s.drop i)[0]? = some c := by rw [hcr]; rfl
        rw [List.getElem?_drop, Nat.add_zero] at this
        rw [this]; rfl
      have hq1 : qBs (s.take (i + 1)) = qBs (s.take i) ++ qB c := by rw [hti1, qBs_append, qBs_one]
      have fin : ∀ W', St w0 G0 (Ky b (Bu (34 :: (qBs (s.take i) ++ qB c))) :: Ky q (Ob (.stringIter ⟨s.toArray⟩ (i + 1))) :: l) W' → appN 0 next [] W' := fun W' h => hnext (i + 1) W' (by omega) ⟨by omega, hvn, by rw [hq1]; exact h.to⟩
      refine letter_spec (by omega) ?_
      refine jni (fun vs W' => vs = [.pointer (some ⟨b, 0, none⟩), .pointer (some ⟨q, 0, none⟩)] ∧ St w0 G0 (Ky b (Bu (34 :: (qBs (s.take i) ++ qB c))) :: Ky q (Ob (.stringIter ⟨s.toArray⟩ (i + 1))) :: l) W') (by rintro vs W' _ ⟨rfl, h⟩; exact app2 ⟨rfl, rfl, fin W' h⟩) ?_
      have hlr := letB_rng c.toNat
      have eb : (UInt8.ofNat (letB c.toNat) = 0) ↔ letB c.toNat = 0 := by
        rw [← UInt8.toNat_inj, UInt8.toNat_ofNat', Nat.mod_eq_of_lt (by omega)]
        rfl
      refine x_neB (b := 0) (ifd (fun hx => ?_) fun hx => ?_)
      · refine wbyte_spec (c := 92) h (by simp; omega) fun W h => ?_
        refine wbyte_spec (c := UInt8.ofNat (letB c.toNat)) h (by simp; omega) fun W h => ⟨rfl, ?_⟩
        have : qB c = [92, UInt8.ofNat (letB c.toNat)] := by unfold qB; rw [if_pos (fun e => hx (eb.2 e))]
        rw [this]
        rw [List.append_assoc, List.cons_append] at h
        exact h
      · have hx0 : letB c.toNat = 0 := eb.1 (Classical.not_not.1 hx)
        refine jni (fun vs W' => vs = [.pointer (some ⟨b, 0, none⟩), .pointer (some ⟨q, 0, none⟩)] ∧ St w0 G0 (Ky b (Bu (34 :: (qBs (s.take i) ++ qB c))) :: Ky q (Ob (.stringIter ⟨s.toArray⟩ (i + 1))) :: l) W') (by rintro vs W' _ ⟨rfl, h⟩; exact app2 ⟨rfl, h⟩) ?_
        refine a_lss (ifd (fun hy => ?_) fun hy => ?_)
        · refine wstr_spec (s := [92, 117, 48, 48]) h (by simp; omega) fun W h => ?_
          refine a_shrN (m := 4) (by decide) ?_
          refine x_index (l := digs16) (hexd_at (by omega)) ?_
          refine wbyte_spec h (by simp; omega) fun W h => ?_
          refine a_andN (n := c.toNat) (m := 15) (le_i32 (by omega)) (le_i32 (by omega)) ?_
          have e15 : c.toNat &&& 15 = c.toNat % 16 := Nat.and_two_pow_sub_one_eq_mod c.toNat 4
          rw [e15]
          refine x_index (l := digs16) (hexd_at (by omega)) ?_
          refine wbyte_spec h (by simp; omega) fun W h => ⟨rfl, ?_⟩
          have : qB c = [92, 117, 48, 48] ++ [hexd (c.toNat / 16)] ++ [hexd (c.toNat % 16)] := by unfold qB; rw [if_neg (by simp [hx0]), if_pos (by omega)]
          rw [this]
          simp only [List.cons_append, List.append_assoc] at h ⊢
          exact h
        · refine wrune_spec (n := c.toNat) h (by omega) (by simp; omega) fun v W h => ⟨rfl, ?_⟩
          have : qB c = [c] := by unfold qB; rw [if_neg (by simp [hx0]), if_neg (by omega)]
          rw [this]
          have e : Go.Ez.utf c.toNat = [c] := by
            unfold Go.Ez.utf encodeRune
            rw [encodeRuneZ_one (by omega) (by omega)]
            simp
          rw [e] at h
          exact h
    · generalize decodeL (s.drop i) = d at *
      have hti1 : s.take (i + d.2) = s.take i ++ (s.drop i).take d.2 := by rw [List.take_add]
      have hq1 : qBs (s.take (i + d.2)) = qBs (s.take i) ++ Go.Ez.utf d.1 := by rw [hti1, qBs_append, qBs_high g6, g7]
      have hdl : (s.drop i).length = s.length - i := List.length_drop
      have fin : ∀ W', St w0 G0 (Ky b (Bu (34 :: (qBs (s.take i) ++ Go.Ez.utf d.1))) :: Ky q (Ob (.stringIter ⟨s.toArray⟩ (i + d.2))) :: l) W' → appN 0 next [] W' := fun W' h => hnext (i + d.2) W' (by omega) ⟨by omega, hvn, by rw [hq1]; exact h.to⟩
      refine letter_spec (by omega) ?_
      rw [letB_high g1]
      refine jni (fun vs W' => vs = [.pointer (some ⟨b, 0, none⟩), .pointer (some ⟨q, 0, none⟩)] ∧ St w0 G0 (Ky b (Bu (34 :: (qBs (s.take i) ++ Go.Ez.utf d.1))) :: Ky q (Ob (.stringIter ⟨s.toArray⟩ (i + d.2))) :: l) W') (by rintro vs W' _ ⟨rfl, h⟩; exact app2 ⟨rfl, rfl, fin W' h⟩) ?_
      refine x_neB (a := 0) (b := 0) (ifd_neg (by simp) ?_)
      refine jni (fun vs W' => vs = [.pointer (some ⟨b, 0, none⟩), .pointer (some ⟨q, 0, none⟩)] ∧ St w0 G0 (Ky b (Bu (34 :: (qBs (s.take i) ++ Go.Ez.utf d.1))) :: Ky q (Ob (.stringIter ⟨s.toArray⟩ (i + d.2))) :: l) W') (by rintro vs W' _ ⟨rfl, h⟩; exact app2 ⟨rfl, h⟩) ?_
      refine a_lss (ifd_neg (by omega) ?_)
      refine wrune_spec (n := d.1) h (by omega) (by simp; omega) fun v W h => ⟨rfl, h⟩
  · refine h.nextEnd hil ?_
    refine a_ext0 (iff' ?_)
    have e : s.take i = s := List.take_of_length_le (by omega)
    rw [e] at h hql
    refine wbyte_spec (c := 34) h (by simp; omega) fun W h => ?_
    refine bstr_spec h (by simp; omega) fun W h => ?_
    exact k W h.to
end
end Go.Proofs.YtififikdlcohpaaDoor
