/-
  TEXTS: a reader of strings of JSON: what each method answers; Unquote.
-/
import Derived.Test.YtififikdlcohpaaDoorTtS
import Derived.Test.YtififikdlcohpaaDoorTtQ
namespace Go.Proofs.YtififikdlcohpaaDoor
open Go Go.Ez Go.RowKit Go.Lib
set_option linter.unusedSimpArgs false
set_option linter.unusedVariables false
/-- a reader: its text, its place, its error -/
abbrev RtO (s : Txt) (x : Pt) : Nat → As := Ob (.cells [strV s, nV .i64 x.1, .int .i64 x.2].toArray 64 (0, 0))
section
variable {w0 W W' : World} {G : Nat → Prop} {l R : List As} {RR : Value → World → Prop} {t s : Txt} {c : UInt8} {b n : Nat} {v : Value} {x : Pt} {e : Int}
theorem fail_spec [i : Has l b (RtO s x) R] (h : St w0 G l W) (k : ∀ W', St w0 G (Ky b (RtO s (failT e x)) :: R) W' → RR (.tuple #[]) W') : CallF Tryd.prog 80 #[.pointer (some ⟨b, 0, none⟩), .int .i64 e] W RR := by
  refine sh80_calls ?_
  unfold sh80
  replace h := h.find (k := b) (X := RtO s x)
  unfold failT at k
  refine a_nil (a_fld0 (h.load (w_eql (ifd (fun h0 => ?_) fun h0 => ?_))))
  · rw [if_pos h0] at k
    refine a_nil (a_fld0 (h.store fun W' h => k W' h))
  · rw [if_neg h0] at k
    exact k W h
theorem next_spec [i : Has l b (RtO s x) R] (h : St w0 G l W) (hx : x.1 ≤ s.length) (hs : s.length ≤ 100000000000) (k : ∀ W', St w0 G (Ky b (RtO s (nextT s x).2) :: R) W' → RR (byteV (nextT s x).1) W') :
    CallF Tryd.prog 79 #[.pointer (some ⟨b, 0, none⟩)] W RR := by
  refine sh79_calls ?_
  unfold sh79
  replace h := h.find (k := b) (X := RtO s x)
  unfold nextT at k
  refine a_nil (a_fld0 (h.load (w_neq (ifd (fun h0 => ?_) fun h0 => ?_))))
  · rw [if_pos h0] at k
    exact k W h
  have he : x.2 = 0 := Classical.not_not.1 h0
  rw [if_neg h0] at k
  refine ⟨St w0 G (Ky b (RtO s x) :: R), h.drew, ?_⟩
  replace h := h.drew
  refine a_nil (a_fld0 (ss_load ?_))
  refine a_nil (a_fld0 (ss_load (x_lens (a_geq (ifd (fun hc => ?_) fun hc => ?_)))))
  · have hn : s[x.1]? = none := List.getElem?_eq_none (by omega)
    rw [hn] at k
    refine fail_spec (s := s) (x := x) h fun W h => ?_
    have : failT 2 x = (x.1, 2) := by unfold failT; rw [if_pos he]
    rw [this] at h
    exact k W h
  · obtain ⟨c, hcv⟩ : ∃ c, s[x.1]? = some c := ⟨_, List.getElem?_eq_getElem (by omega)⟩
    rw [hcv] at k
    refine a_nil (a_fld0 (h.load (a_add64 (by omega) (by omega) ?_)))
    rw [show ((x.1 : Int) + 1) = ((x.1 + 1 : Nat) : Int) by push_cast; rfl]
    refine a_nil (a_fld0 (h.store fun W h => ?_))
    refine ⟨St w0 G (Ky b (RtO s (x.1 + 1, x.2)) :: R), h.drew, ?_⟩
    replace h := h.drew
    refine a_nil (a_fld0 (ss_load ?_))
    refine a_nil (a_fld0 (ss_load (a_sub64 (by omega) (by omega) ?_)))
    rw [show (((x.1 + 1 : Nat) : Int) - 1) = (x.1 : Int) by omega]
    refine x_index hcv ?_
    rw [he] at h
    exact k _ h
theorem twants_spec [i : Has l b (RtO s x) R] (h : St w0 G l W) (hx : x.1 ≤ s.length) (hs : s.length ≤ 100000000000) (k : ∀ W', St w0 G (Ky b (RtO s (wantsT s c x)) :: R) W' → RR (.tuple #[]) W') :
    CallF Tryd.prog 43 #[.pointer (some ⟨b, 0, none⟩), byteV c] W RR := by
  refine sh43_calls ?_
  unfold sh43
  refine next_spec (s := s) (x := x) h hx hs fun W h => ?_
  unfold wantsT at k
  generalize nextT s x = N at *
  refine a_nil (a_fld0 (h.load (w_eql (ifd (fun h0 => ?_) fun h0 => ?_))))
  · refine x_neB (ifd (fun hc => ?_) fun hc => ?_)
    · rw [if_pos ⟨h0, hc⟩] at k
      exact fail_spec (s := s) (x := N.2) h k
    · rw [if_neg fun hh => hc hh.2] at k
      exact k W h
  · rw [if_neg fun hh => h0 hh.1] at k
    exact k W h
theorem or16 {n d : Nat} (h : d < 16) : n * 16 ||| d = n * 16 + d := by
  have := Nat.two_pow_add_eq_or_of_lt (i := 4) (b := d) (by omega) n
  rw [show (2 : Nat) ^ 4 = 16 from rfl, Nat.mul_comm 16 n] at this
  exact this.symm
theorem four_spec [i : Has l b (RtO s x) R] (h : St w0 G l W) (hx : x.1 ≤ s.length) (hs : s.length ≤ 100000000000) (k : ∀ W', St w0 G (Ky b (RtO s (fourT s 4 0 x).2) :: R) W' → RR (nV .i32 (fourT s 4 0 x).1) W') :
    CallF Tryd.prog 92 #[.pointer (some ⟨b, 0, none⟩)] W RR := by
  refine sh92_calls ?_
  unfold sh92
  replace h := h.find (k := b) (X := RtO s x)
  generalize hRES : fourT s 4 0 x = RES at k
  refine lpx (α := Nat × Nat × Pt) (fun a => [nV .i32 a.2.1, nV .i64 a.1]) (fun a W' => a.1 ≤ 4 ∧ a.2.1 < 16 ^ a.1 ∧ a.2.2.1 ≤ s.length ∧ fourT s (4 - a.1) a.2.1 a.2.2 = RES ∧ St w0 G (Ky b (RtO s a.2.2) :: R) W') (fun a => 4 - a.1) (0, 0, x) (fun _ => rfl) rfl ⟨by simp, by simp, hx, hRES, h⟩ ?_
  clear h
  rintro next ⟨i, n, y⟩ W1 hnext ⟨hi, hn, hy, he, h⟩
  simp only at hi hn hy he h
  refine app2 ?_
  have h16 : 16 ^ i ≤ 16 ^ 4 := Nat.pow_le_pow_right (by decide) hi
  refine a_lss (ifd (fun hc => ?_) fun hc => ?_)
  · refine next_spec (s := s) (x := y) h hy hs fun W h => ?_
    have hle := (nextT_le (s := s) (x := y) hy).1
    rw [show 4 - i = (3 - i) + 1 by omega] at he
    unfold fourT at he
    generalize nextT s y = N at *
    refine jni (fun vs W' => vs = [.pointer (some ⟨b, 0, none⟩), nV .i32 n, byteV (lowC N.1), nV .i64 i] ∧ W' = W) ?_ ?_
    · rintro vs W' _ ⟨rfl, rfl⟩
      refine app4 ?_
      refine idxByte_spec (t := digs16) ?_
      rw [dig16_idx]
      cases hd : dig16 (lowC N.1) with
      | none =>
        rw [hd] at he
        refine a_lss (ifd_pos (by decide) ?_)
        refine fail_spec (s := s) (x := N.2) h fun W h => ?_
        simp only at he
        rw [← he] at k
        exact k W h
      | some d =>
        rw [hd] at he
        simp only at he
        have hdl := dig16_lt hd
        refine a_lss (ifd_neg (by simp only; omega) ?_)
        refine a_shlN (m := 4) (by decide) (le_i32 (by omega)) ?_
        refine x_nat (le_i32 (by omega)) ?_
        refine a_orN (le_i32 (by omega)) (le_i32 (by omega)) ?_
        rw [show n * 2 ^ 4 = n * 16 from rfl, or16 hdl]
        refine a_add64 (by omega) (by omega) ⟨rfl, ?_⟩
        rw [show ((i : Int) + 1) = ((i + 1 : Nat) : Int) by push_cast; rfl]
        refine hnext (i + 1, n * 16 + d, N.2) _ (by simp only; omega) ⟨by simp only; omega, ?_, hle, ?_, h⟩
        · simp only; rw [Nat.pow_succ]; omega
        · simp only; rw [show 4 - (i + 1) = 3 - i by omega]; exact he
    · have hlt := N.1.toNat_lt
      refine a_geq (ifd (fun h1 => a_leq (ifd (fun h2 => ?_) fun h2 => ?_)) fun h1 => ?_)
      · refine a_add ?_
        have e : IntKind.u8.wrap ((N.1.toNat : Int) + 32) = ((lowC N.1).toNat : Int) := by
          unfold lowC
          rw [if_pos (by omega), UInt8.toNat_ofNat', Nat.mod_eq_of_lt (by omega)]
          exact wrap_nat (k := .u8) (m := N.1.toNat + 32) (by simp only [IntKind.max, IntKind.bits, IntKind.signed]; simp; omega)
        rw [e]
        exact ⟨rfl, rfl⟩
      · have e : lowC N.1 = N.1 := by unfold lowC; rw [if_neg (by omega)]
        rw [e]; exact ⟨rfl, rfl⟩
      · have e : lowC N.1 = N.1 := by unfold lowC; rw [if_neg (by omega)]
        rw [e]; exact ⟨rfl, rfl⟩
  · obtain rfl : i = 4 := by omega
    have e2 : RES = (n, y) := he.symm
    rw [e2] at k
    exact k W1 h
theorem unit_spec [i : Has l b (RtO s x) R] (h : St w0 G l W) (hx : x.1 ≤ s.length) (hs : s.length ≤ 100000000000) (k : ∀ W', St w0 G (Ky b (RtO s (unitT s x).2) :: R) W' → RR (nV .i32 (unitT s x).1) W') :
    CallF Tryd.prog 82 #[.pointer (some ⟨b, 0, none⟩)] W RR := by
  refine sh82_calls ?_
  unfold sh82
  refine four_spec (s := s) (x := x) h hx hs fun W h => ?_
  have l1 := fourT_lt (s := s) (k := 4) (n := 0) (x := x)
  have p1 := (fourT_le (s := s) (k := 4) (n := 0) hx).1
  unfold unitT at k
  simp only [] at k
  generalize fourT s 4 0 x = C at *
  refine a_nil (a_fld0 (h.load (w_neq (ifd (fun h0 => ?_) fun h0 => ?_))))
  · rw [if_pos (.inl h0)] at k; exact k W h
  refine a_lss (ifd (fun h1 => ?_) fun h1 => ?_)
  · rw [if_pos (.inr (.inl (by omega)))] at k; exact k W h
  refine a_gtr (ifd (fun h2 => ?_) fun h2 => ?_)
  · rw [if_pos (.inr (.inr (by omega)))] at k; exact k W h
  rw [if_neg (by omega)] at k
  refine a_geq (ifd (fun h3 => ?_) fun h3 => ?_)
  · rw [if_pos (by omega)] at k
    exact fail_spec (s := s) (x := C.2) h fun W h => k W h
  rw [if_neg (by omega)] at k
  refine twants_spec (s := s) (x := C.2) (c := 92) h p1 hs fun W h => ?_
  have p2 := (wantsT_le (s := s) (c := 92) p1).1
  refine twants_spec (s := s) (x := wantsT s 92 C.2) (c := 117) h p2 hs fun W h => ?_
  have p3 := (wantsT_le (s := s) (c := 117) p2).1
  generalize wantsT s 117 (wantsT s 92 C.2) = Y at *
  refine four_spec (s := s) (x := Y) h p3 hs fun W h => ?_
  have l2 := fourT_lt (s := s) (k := 4) (n := 0) (x := Y)
  generalize fourT s 4 0 Y = D at *
  refine jni (fun vs W' => vs = [nV .i32 C.1, nV .i32 D.1] ∧ St w0 G (Ky b (RtO s (if D.1 < 56320 ∨ 57343 < D.1 then failT 4 D.2 else D.2)) :: R) W') ?_ ?_
  · rintro vs W' _ ⟨rfl, h⟩
    refine app2 ?_
    have mx : IntKind.i32.max = 2147483647 := rfl
    have w32 : ∀ m : Nat, m ≤ 2147483647 → IntKind.i32.wrap (m : Int) = m := fun m hm => wrap_nat (le_i32 hm)
    refine a_sub ?_
    rw [show ((C.1 : Int) - 55296) = ((C.1 - 55296 : Nat) : Int) by omega, w32 _ (by omega)]
    refine a_shlN (m := 10) (by decide) (le_i32 (by omega)) (a_add ?_)
    rw [show (65536 + (((C.1 - 55296) * 2 ^ 10 : Nat) : Int)) = ((65536 + (C.1 - 55296) * 1024 : Nat) : Int) by omega, w32 _ (by omega)]
    refine a_add ?_
    rw [show (((65536 + (C.1 - 55296) * 1024 : Nat) : Int) + (D.1 : Int)) = ((65536 + (C.1 - 55296) * 1024 + D.1 : Nat) : Int) by omega, w32 _ (by omega)]
    refine a_sub ?_
    rw [show (((65536 + (C.1 - 55296) * 1024 + D.1 : Nat) : Int) - 56320) = ((65536 + (C.1 - 55296) * 1024 + D.1 - 56320 : Nat) : Int) by omega, w32 _ (by omega)]
    exact k W' h
  · refine a_lss (ifd (fun h4 => ?_) fun h4 => a_gtr (ifd (fun h5 => ?_) fun h5 => ?_))
    · refine fail_spec (s := s) (x := D.2) h fun W h => ⟨rfl, ?_⟩
      rw [if_pos (.inl (by omega))]; exact h
    · refine fail_spec (s := s) (x := D.2) h fun W h => ⟨rfl, ?_⟩
      rw [if_pos (.inr (by omega))]; exact h
    · refine ⟨rfl, ?_⟩
      rw [if_neg (by omega)]; exact h
theorem short_un : ∀ i, i < 7 → ∃ a b, shortL[2 * i]? = some a ∧ shortL[2 * i + 1]? = some b ∧ unletB b.toNat = some a.toNat := by
  intro i hi
  match i, hi with
  | 0, _ | 1, _ | 2, _ | 3, _ | 4, _ | 5, _ | 6, _ => exact ⟨_, _, rfl, rfl, by decide⟩
theorem unletB_no {n : Nat} (h : ∀ i, i < 7 → ∀ a, shortL[2 * i + 1]? = some a → a.toNat ≠ n) : unletB n = none := by
  have h0 := h 0 (by decide) _ rfl; have h1 := h 1 (by decide) _ rfl; have h2 := h 2 (by decide) _ rfl; have h3 := h 3 (by decide) _ rfl; have h4 := h 4 (by decide) _ rfl; have h5 := h 5 (by decide) _ rfl; have h6 := h 6 (by decide) _ rfl
  unfold unletB
  rw [if_neg (fun e => h0 (by rw [e]; rfl)), if_neg (fun e => h1 (by rw [e]; rfl)), if_neg (fun e => h2 (by rw [e]; rfl)), if_neg (fun e => h3 (by rw [e]; rfl)), if_neg (fun e => h4 (by rw [e]; rfl)), if_neg (fun e => h5 (by rw [e]; rfl)), if_neg (fun e => h6 (by rw [e]; rfl))]
theorem esc_spec [i : Has l b (RtO s x) R] (h : St w0 G l W) (hx : x.1 ≤ s.length) (hs : s.length ≤ 100000000000) (k : ∀ W', St w0 G (Ky b (RtO s (escT s x).2) :: R) W' → RR (nV .i32 (escT s x).1) W') :
    CallF Tryd.prog 45 #[.pointer (some ⟨b, 0, none⟩)] W RR := by
  refine sh45_calls ?_
  unfold sh45
  refine next_spec (s := s) (x := x) h hx hs fun W h => ?_
  have p1 := (nextT_le (s := s) hx).1
  unfold escT at k
  simp only [] at k
  generalize nextT s x = C at *
  refine a_nil (a_fld0 (h.load (w_neq (ifd (fun h0 => ?_) fun h0 => ?_))))
  · rw [if_pos h0] at k; exact k W h
  rw [if_neg h0] at k
  refine x_eqB (b := 117) (ifd (fun h1 => ?_) fun h1 => ?_)
  · rw [if_pos h1] at k
    exact unit_spec (s := s) (x := C.2) h p1 hs k
  rw [if_neg h1] at k
  refine x_eqB (b := 47) (ifd (fun h2 => ?_) fun h2 => ?_)
  · rw [if_pos h2] at k; exact k W h
  rw [if_neg h2] at k
  refine lpx (α := Nat) (fun i => [nV .i64 (2 * i)]) (fun i W' => i ≤ 7 ∧ (∀ j, j < i → ∀ a, shortL[2 * j + 1]? = some a → a.toNat ≠ C.1.toNat) ∧ W' = W) (fun i => 7 - i) 0 (fun _ => rfl) rfl ⟨by decide, fun j h => absurd h (Nat.not_lt_zero _), rfl⟩ ?_
  rintro next i W1 hnext ⟨hi, hall, rfl⟩
  refine app1 ?_
  refine a_lss (ifd (fun hc => ?_) fun hc => ?_)
  · obtain ⟨a, d, ha, hb, e⟩ := short_un i (by omega)
    refine a_add64 (by omega) (by omega) ?_
    rw [show ((2 * i : Nat) : Int) + 1 = ((2 * i + 1 : Nat) : Int) by omega]
    refine x_index (l := shortL) hb ?_
    refine x_eqB (ifd (fun he => ?_) fun he => ?_)
    · refine x_index (l := shortL) ha ?_
      refine v_ofByte Tryd.underlying5 Tryd.underlying21 (by decide) ?_
      rw [← he, e] at k
      exact k _ h
    · refine a_add64 (by omega) (by omega) ⟨rfl, rfl, ?_⟩
      rw [show ((2 * i : Nat) : Int) + 2 = ((2 * (i + 1) : Nat) : Int) by omega]
      refine hnext (i + 1) _ (by omega) ⟨by omega, fun j hj a' ha' => ?_, rfl⟩
      by_cases hji : j < i
      · exact hall j hji a' ha'
      · obtain rfl : j = i := by omega
        rw [hb] at ha'; cases ha'
        exact fun hh => he (UInt8.toNat_inj.1 hh)
  · obtain rfl : i = 7 := by omega
    rw [unletB_no hall] at k
    exact fail_spec (s := s) (x := C.2) h k
end
section
variable {w0 W W' : World} {l R : List As} {RR : Value → World → Prop} {t s : Txt} {c : UInt8} {b n : Nat} {v : Value} {x : Pt} {e : Int}
theorem rsign_spec [i : Has l b (RtO s x) R] (hT : Tabs w0) (h : St w0 G0 l W) (hx : x.1 ≤ s.length) (hs : s.length ≤ 100000000000) (k : ∀ W', St w0 G0 (Ky b (RtO s (signT s x).2) :: R) W' → RR (nV .i32 (signT s x).1) W') :
    CallF Tryd.prog 44 #[.pointer (some ⟨b, 0, none⟩)] W RR := by
  refine sh44_calls ?_
  unfold sh44
  replace h := h.find (k := b) (X := RtO s x)
  unfold signT at k
  refine ⟨St w0 G0 (Ky b (RtO s x) :: R), h.drew, ?_⟩
  replace h := h.drew
  refine a_nil (a_fld0 (ss_load ?_))
  refine a_nil (a_fld0 (ss_load (x_lens (a_geq (ifd (fun hc => ?_) fun hc => ?_)))))
  · rw [if_pos (by omega)] at k
    exact fail_spec (s := s) (x := x) h k
  rw [if_neg (by omega)] at k
  refine ⟨St w0 G0 (Ky b (RtO s x) :: R), h.drew, ?_⟩
  replace h := h.drew
  refine a_nil (a_fld0 (ss_load ?_))
  refine a_nil (a_fld0 (ss_load ?_))
  refine x_cutL (lo := x.1) hx ?_
  refine dec_spec hT h (drop_ne (by omega)) fun W h => ?_
  have hd := dec_facts (s.drop x.1) (drop_ne (by omega))
  have hdl : (s.drop x.1).length = s.length - x.1 := List.length_drop
  have hb2 : badL (s.drop x.1) ↔ (decodeL (s.drop x.1)).1 = 65533 ∧ (decodeL (s.drop x.1)).2 < 2 := ⟨fun hb => ⟨hb.1, by have := hb.2; omega⟩, fun hb => ⟨hb.1, by have := hd.2.1; omega⟩⟩
  have hw4 : (decodeL (s.drop x.1)).2 ≤ 4 := by
    rw [decodeL_N]; unfold decodeN
    (repeat' split) <;> simp
  refine a_ext0 (a_ext1 ?_)
  generalize decodeL (s.drop x.1) = D at *
  refine jni (fun vs W' => vs = [.pointer (some ⟨b, 0, none⟩), nV .i32 D.1, nV .i64 D.2] ∧ ¬ (D.1 < 32 ∨ badL (s.drop x.1)) ∧ W' = W) ?_ ?_
  · rintro vs W' _ ⟨rfl, hn, rfl⟩
    refine app3 ?_
    rw [if_neg hn] at k
    refine a_nil (a_fld0 (h.load (a_add64 (by omega) (by omega) ?_)))
    rw [show ((x.1 : Int) + (D.2 : Int)) = ((x.1 + D.2 : Nat) : Int) by omega]
    refine a_nil (a_fld0 (h.store fun W h => ?_))
    exact k W h
  · refine a_lss (ifd (fun h1 => ?_) fun h1 => w_eql (ifd (fun h2 => a_lss (ifd (fun h3 => ?_) fun h3 => ?_)) fun h2 => ?_))
    · rw [if_pos (.inl (by omega))] at k
      exact fail_spec (s := s) (x := x) h k
    · rw [if_pos (.inr (hb2.2 ⟨by omega, by omega⟩))] at k
      exact fail_spec (s := s) (x := x) h k
    · exact ⟨rfl, by rw [hb2]; omega, rfl⟩
    · exact ⟨rfl, by rw [hb2]; omega, rfl⟩
/-- Unquote -/
theorem tunq_spec {a : Int} (hT : Tabs w0) (h : St w0 G0 l W) (hs : s.length ≤ 1000000000) (k : ∀ W', St w0 G0 l W' → RR (.tuple #[strV (unqS s a).1, nV .i64 (unqS s a).2.1, .int .i64 (unqS s a).2.2]) W') :
    CallF Tryd.prog 17 #[strV s, .int .i64 a] W RR := by
  refine sh17_calls ?_
  unfold sh17
  unfold unqS at k
  refine a_lss (ifd (fun h1 => ?_) fun h1 => ?_)
  · rw [if_pos (.inl h1)] at k; exact k W h
  refine x_len (a_gtr (ifd (fun h2 => ?_) fun h2 => ?_))
  · rw [if_pos (.inr h2)] at k; exact k W h
  rw [if_neg (by omega)] at k
  obtain ⟨a, rfl⟩ := Int.eq_ofNat_of_zero_le (show 0 ≤ a by omega)
  rw [Int.toNat_natCast] at k
  refine x_bld (cells := #[strV s, nV .i64 a, .int .i64 0]) rfl ?_
  refine h.boxS (cs := [strV s, nV .i64 a, .int .i64 0]) fun b W h => ?_
  replace h : St w0 G0 (Ky b (RtO s (a, 0)) :: l) W := h
  refine twants_spec (s := s) (x := (a, 0)) (c := 34) h (by simp only; omega) (by omega) fun W h => ?_
  have p0 := (wantsT_le (s := s) (c := 34) (x := (a, 0)) (by simp only; omega)).1
  generalize wantsT s 34 (a, 0) = X at *
  generalize hRES : unqGo s (2 * s.length + 4) X [] = RES at k
  refine h.allocS fun q W h => ?_
  replace h := buNew h
  refine lpx (α := Nat × Pt × Txt) (fun _ => []) (fun A W' => A.2.1.1 ≤ s.length ∧ A.2.2.length ≤ 4 * (2 * s.length + 4 - A.1) ∧ A.1 ≤ 2 * s.length + 4 ∧ (A.2.1.2 = 0 → 2 * (s.length - A.2.1.1) + 2 ≤ A.1) ∧ 1 ≤ A.1 ∧ unqGo s A.1 A.2.1 A.2.2 = RES ∧ St w0 G0 (Ky q (Bu A.2.2) :: Ky b (RtO s A.2.1) :: l) W') (fun A => A.1)
    (2 * s.length + 4, X, []) (fun _ => rfl) rfl ⟨p0, by simp, Nat.le_refl _, fun _ => by simp only; omega, by simp, hRES, h⟩ ?_
  clear h
  rintro next ⟨f, y, out⟩ W1 hnext ⟨hy, hout, hf, hfe, hf1, he, h⟩
  simp only at hy hout hf hfe hf1 he h
  refine app0 ?_
  obtain ⟨g, rfl⟩ : ∃ g, f = g + 1 := ⟨f - 1, by omega⟩
  unfold unqGo at he
  refine a_nil (a_fld0 (h.load (w_eql (ifd (fun h0 => ?_) fun h0 => ?_))))
  · have hfe' := hfe h0
    rw [if_neg (by simp [h0])] at he
    refine rsign_spec (s := s) (x := y) hT h hy (by omega) fun W h => ?_
    obtain ⟨s1, s2, s3, s4⟩ := signT_le (s := s) hy
    generalize signT s y = S at *
    have fin : ∀ (g' : Nat) (z : Pt) (o : Txt) W', g' = g → z.1 ≤ s.length → o.length ≤ out.length + 4 → (z.2 = 0 → 2 * (s.length - z.1) + 2 ≤ g) → unqGo s g z o = RES → St w0 G0 (Ky q (Bu o) :: Ky b (RtO s z) :: l) W' → appN 0 next [] W' := fun g' z o W' hg hz ho hze hu h =>
      hnext (g, z, o) W' (by simp only; omega) ⟨hz, by simp only; omega, by simp only; omega, hze, by simp only; omega, hu, h⟩
    refine jni (fun vs W' => vs = [.pointer (some ⟨b, 0, none⟩), .pointer (some ⟨q, 0, none⟩)] ∧ ∃ (z : Pt) (o : Txt), z.1 ≤ s.length ∧ o.length ≤ out.length + 4 ∧ (z.2 = 0 → 2 * (s.length - z.1) + 2 ≤ g) ∧ unqGo s g z o = RES ∧ St w0 G0 (Ky q (Bu o) :: Ky b (RtO s z) :: l) W') (by
      rintro vs W' _ ⟨rfl, z, o, c1, c2, c3, c4, h⟩
      exact app2 ⟨rfl, rfl, fin g z o W' rfl c1 c2 c3 c4 h⟩) ?_
    refine a_nil (a_fld0 (h.load (w_neq (ifd (fun h3 => ?_) fun h3 => ?_))))
    · rw [if_pos h3] at he
      exact ⟨rfl, S.2, out, s1, by omega, (fun hz => absurd hz h3), he, h.to⟩
    · rw [if_neg h3] at he
      have h30 := Classical.not_not.1 h3
      have h4 := s4 h30
      refine w_eql (ifd (fun h5 => ?_) fun h5 => ?_)
      · rw [if_pos (by omega)] at he
        refine ⟨St w0 G0 (Ky b (RtO s S.2) :: l), h.drew.to, ?_⟩
        replace h := h.drew
        refine a_nil (a_fld0 (ss_load ?_))
        refine bstr_spec (t := out) h (by omega) fun W h => ⟨h.to, ?_⟩
        rw [← he] at k
        exact k W h.to
      · rw [if_neg (by omega)] at he
        refine jni (fun vs W' => vs = [.pointer (some ⟨b, 0, none⟩), .pointer (some ⟨q, 0, none⟩)] ∧ ∃ (z : Pt) (o : Txt), z.1 ≤ s.length ∧ o.length ≤ out.length + 4 ∧ (z.2 = 0 → 2 * (s.length - z.1) + 2 ≤ g) ∧ unqGo s g z o = RES ∧ St w0 G0 (Ky q (Bu o) :: Ky b (RtO s z) :: l) W') (by
          rintro vs W' _ ⟨rfl, hh⟩
          exact app2 ⟨rfl, hh⟩) ?_
        refine w_eql (ifd (fun h6 => ?_) fun h6 => ?_)
        · rw [if_pos (by omega)] at he
          refine esc_spec (s := s) (x := S.2) h s1 (by omega) fun W h => ?_
          obtain ⟨e1, e2, e3⟩ := escT_le (s := s) s1
          generalize escT s S.2 = E at *
          have hul := utf_len E.1
          refine wrune_spec (n := E.1) h (by omega) (by omega) fun v W h => ⟨rfl, E.2, out ++ Go.Ez.utf E.1, e1, by rw [List.length_append]; omega, fun _ => by omega, he, h.to⟩
        · rw [if_neg (by omega)] at he
          have hul := utf_len S.1
          refine wrune_spec (n := S.1) h (by omega) (by omega) fun v W h => ⟨rfl, S.2, out ++ Go.Ez.utf S.1, s1, by rw [List.length_append]; omega, fun _ => by omega, he, h.to⟩
  · rw [if_pos h0] at he
    refine ⟨St w0 G0 _, h.drew, ?_⟩
    replace h := h.drew
    refine a_nil (a_fld0 (ss_load ?_))
    rw [← he] at k
    exact k _ h.to
end
end Go.Proofs.YtififikdlcohpaaDoor
