/-
  DATES: the document's functions: days, seconds, digits, parts.
-/
import Derived.Test.YtififikdlcohpaaDoorDtV
import Derived.Test.YtififikdlcohpaaDoorDtJ
namespace Go.Proofs.YtififikdlcohpaaDoor
open Go Go.Ez Go.RowKit
set_option linter.unusedSimpArgs false
set_option linter.unusedVariables false
section
variable {w0 W W' : World} {G : Nat → Prop} {l R : List As} {RR : Value → World → Prop} {y mo d h mi s : Int}
theorem w_neC {P : Program} {K : Value → Prop} {t : TypeId} {X Y : Operand} {c : UInt8} (d : UInt8) {n : Int} (hn : n = (d.toNat : Int)) (h : K (.bool (decide (c ≠ d)))) : RunW P (bin .neq t X Y (byteV c) (.int .u8 n)) W K := by
  subst hn; exact x_neB h
theorem w_eqC {P : Program} {K : Value → Prop} {t : TypeId} {X Y : Operand} {c : UInt8} (d : UInt8) {n : Int} (hn : n = (d.toNat : Int)) (h : K (.bool (decide (c = d)))) : RunW P (bin .eql t X Y (byteV c) (.int .u8 n)) W K := by
  subst hn; exact x_eqB h
/-- hblref1.leap -/
theorem leapR_spec (hy : 0 ≤ y) (k : RR (.bool (leapB y)) W) : CallF Tryd.prog 88 #[.int .i64 y] W RR := by
  refine sh88_calls ?_
  unfold sh88
  unfold leapB at k
  refine a_rem64 hy (by decide) (w_eql (ifd (fun h4 => ?_) fun h4 => ?_))
  · refine a_rem64 hy (by decide) (w_neq (ifd (fun h1 => ?_) fun h1 => ?_))
    · rw [decide_eq_true h4, decide_eq_true h1] at k; exact k
    · refine a_rem64 hy (by decide) (w_eql ?_)
      rw [decide_eq_false h1] at k; simpa using k
  · rw [decide_eq_false h4, decide_eq_false (show ¬ y % 400 = 0 by omega)] at k
    simpa using k
/-- hblref1.length -/
theorem lengthR_spec (hy : 0 ≤ y) (k : RR (.int .i64 (lenM y mo)) W) : CallF Tryd.prog 74 #[.int .i64 y, .int .i64 mo] W RR := by
  refine sh74_calls ?_
  unfold sh74
  refine jni (fun vs W' => ∃ b : Bool, vs = [.int .i64 y, .int .i64 mo, .bool b] ∧ b = decide (mo = 4 ∨ mo = 6 ∨ mo = 9 ∨ mo = 11) ∧ W' = W) ?_ ?_
  · rintro vs W' _ ⟨b, rfl, rfl, rfl⟩
    refine app3 ?_
    unfold lenM at k
    refine ifd (fun h => ?_) fun h => ?_
    · rw [if_neg (by omega), if_pos h] at k; exact k
    · refine w_eql (ifd (fun h2 => ?_) fun h2 => ?_)
      · rw [if_pos h2] at k
        refine leapR_spec hy (ifb (fun hl => ?_) fun hl => ?_)
        · rw [hl] at k; exact k
        · rw [hl] at k; exact k
      · rw [if_neg h2, if_neg h] at k; exact k
  · refine w_eql (ifd (fun c => ⟨true, by simp [c], by simp [c], rfl⟩) fun c4 => ?_)
    refine jni (fun vs W' => ∃ b : Bool, vs = [.int .i64 y, .int .i64 mo, .bool b] ∧ b = decide (mo = 4 ∨ mo = 6 ∨ mo = 9 ∨ mo = 11) ∧ W' = W) ?_ ?_
    · rintro vs W' _ ⟨b, rfl, rfl, rfl⟩
      exact app3 ⟨_, rfl, rfl, rfl⟩
    refine w_eql (ifd (fun c => ⟨true, by simp [c], by simp [c], rfl⟩) fun c6 => ?_)
    refine jni (fun vs W' => ∃ b : Bool, vs = [.int .i64 y, .int .i64 mo, .bool b] ∧ b = decide (mo = 4 ∨ mo = 6 ∨ mo = 9 ∨ mo = 11) ∧ W' = W) ?_ ?_
    · rintro vs W' _ ⟨b, rfl, rfl, rfl⟩
      exact app3 ⟨_, rfl, rfl, rfl⟩
    refine w_eql (ifd (fun c => ⟨true, by simp [c], by simp [c], rfl⟩) fun c9 => ?_)
    refine w_eql ⟨_, rfl, ?_, rfl⟩
    refine decide_eq_decide.2 ⟨fun h => by omega, fun h => by omega⟩
/-- hblref1.first -/
theorem firstR_spec (hy : 1 ≤ y) (hy' : y ≤ 100000) (k : RR (.int .i64 (firstD y)) W) : CallF Tryd.prog 73 #[.int .i64 y] W RR := by
  refine sh73_calls ?_
  unfold sh73
  refine a_sub64 (by omega) (by omega) (a_mul64 (by omega) (by omega) ?_)
  refine a_quo64 (by omega) (by omega) (by decide) (a_add64 (by omega) (by omega) ?_)
  refine a_quo64 (by omega) (by omega) (by decide) (a_sub64 (by omega) (by omega) ?_)
  refine a_quo64 (by omega) (by omega) (by decide) (a_add64 (by omega) (by omega) ?_)
  refine a_sub64 (by omega) (by omega) ?_
  rw [show 365 * (y - 1) + (y - 1) / 4 - (y - 1) / 100 + (y - 1) / 400 - 719162 = firstD y by unfold firstD; omega]
  exact k
/-- hblref1.in -/
theorem inR_spec {t : Int} (k : RR (.bool (within t)) W) : CallF Tryd.prog 72 #[.int .i64 t] W RR := by
  refine sh72_calls ?_
  unfold sh72
  unfold within at k
  refine a_geq (ifd (fun h0 => ?_) fun h0 => ?_)
  · refine firstR_spec (by decide) (by decide) ?_
    rw [show firstD 10000 = 2932897 by decide]
    refine a_mul64 (by decide) (by decide) (a_lss ?_)
    rw [show (2932897 * 86400 : Int) = 253402300800 by decide]
    rw [show decide (0 ≤ t ∧ t < 253402300800) = decide (t < 253402300800) from decide_eq_decide.2 ⟨fun h => h.2, fun h => ⟨h0, h⟩⟩] at k
    exact k
  · rw [decide_eq_false fun h => h0 h.1] at k; exact k
/-- hblref1.Make -/
theorem makeR_spec (k : RR (.tuple #[.int .i64 (makeP y mo d h mi s).1, .bool (makeP y mo d h mi s).2]) W) : CallF Tryd.prog 35 #[.int .i64 y, .int .i64 mo, .int .i64 d, .int .i64 h, .int .i64 mi, .int .i64 s] W RR := by
  refine sh35_calls ?_
  unfold sh35
  refine jni (fun vs W' => ∃ b : Bool, vs = [.int .i64 y, .int .i64 mo, .int .i64 d, .int .i64 h, .int .i64 mi, .int .i64 s, .bool b] ∧ okM y mo d h mi s = !b ∧ W' = W) ?_ ?_
  · rintro vs W' _ ⟨b, rfl, hok, rfl⟩
    refine app7 ?_
    refine ifb (fun hb => ?_) fun hb => ?_
    · subst hb
      unfold makeP at k; rw [hok] at k; exact k
    subst hb
    have e : makeP y mo d h mi s = (secN y mo d h mi s, true) := by unfold makeP; rw [hok]; rfl
    rw [e] at k
    obtain ⟨h1, h2, h3, h4, h5, h6, h7, h8, h9, h10, h11, h12⟩ := of_decide_eq_true hok
    have hl := lenM_le y mo
    obtain ⟨hf, hf'⟩ := firstD_rng h1 (by omega)
    refine firstR_spec (by omega) (by omega) ?_
    refine a_add64 (by omega) (by omega) (a_sub64 (by omega) (by omega) ?_)
    refine lpx (α := Nat) (fun i => [.int .i64 (firstD y + d - 1 + sumL y i), nV .i64 (i + 1)]) (fun i W'' => i + 1 ≤ mo.toNat ∧ W'' = W') (fun i => mo.toNat - i) 0 (fun _ => rfl) (by simp [sumL]) ⟨by omega, rfl⟩ ?_
    rintro next i W3 hnext ⟨hi, rfl⟩
    refine app2 ?_
    have hs1 := sumL_ge y i
    have hs2 := sumL_le y i
    refine a_lss (ifd (fun hc => ?_) fun hc => ?_)
    · refine lengthR_spec (by omega) ?_
      have hg := lenM_ge y ((i + 1 : Nat) : Int)
      have hg' := lenM_le y ((i + 1 : Nat) : Int)
      refine a_add64 (by omega) (by omega) (a_add64 (by omega) (by omega) ⟨rfl, rfl, rfl, rfl, rfl, ?_⟩)
      rw [show firstD y + d - 1 + sumL y i + lenM y ((i + 1 : Nat) : Int) = firstD y + d - 1 + sumL y (i + 1) by rw [show sumL y (i + 1) = sumL y i + lenM y ((i + 1 : Nat) : Int) from rfl]; omega, show (((i + 1 : Nat) : Int) + 1) = ((i + 1 + 1 : Nat) : Int) by push_cast; rfl]
      exact hnext (i + 1) _ (by omega) ⟨by omega, rfl⟩
    · have hie : i = (mo - 1).toNat := by omega
      refine a_mul64 (by omega) (by omega) (a_mul64 (by omega) (by omega) (a_add64 (by omega) (by omega) (a_mul64 (by omega) (by omega) (a_add64 (by omega) (by omega) (w_min (a_add64 (by omega) (by omega) ?_))))))
      subst hie
      exact k
  · have bad : ¬ (1970 ≤ y ∧ y ≤ 9999 ∧ 1 ≤ mo ∧ mo ≤ 12 ∧ 1 ≤ d ∧ d ≤ lenM y mo ∧ 0 ≤ h ∧ h ≤ 23 ∧ 0 ≤ mi ∧ mi ≤ 59 ∧ 0 ≤ s ∧ s ≤ 60) → ∃ b : Bool, ([.int .i64 y, .int .i64 mo, .int .i64 d, .int .i64 h, .int .i64 mi, .int .i64 s, .bool true] : List Value) = [.int .i64 y, .int .i64 mo, .int .i64 d, .int .i64 h, .int .i64 mi, .int .i64 s, .bool b] ∧ okM y mo d h mi s = !b ∧ W = W := fun hn => ⟨true, rfl, decide_eq_false hn, rfl⟩
    refine a_lss (ifd (fun hc => bad fun hx => by omega) fun c1 => ?_)
    refine a_gtr (ifd (fun hc => bad fun hx => by omega) fun c2 => ?_)
    refine a_lss (ifd (fun hc => bad fun hx => by omega) fun c3 => ?_)
    refine a_gtr (ifd (fun hc => bad fun hx => by omega) fun c4 => ?_)
    refine a_lss (ifd (fun hc => bad fun hx => by omega) fun c5 => ?_)
    refine lengthR_spec (by omega) ?_
    refine a_gtr (ifd (fun hc => bad fun hx => by omega) fun c6 => ?_)
    refine a_lss (ifd (fun hc => bad fun hx => by omega) fun c7 => ?_)
    refine a_gtr (ifd (fun hc => bad fun hx => by omega) fun c8 => ?_)
    refine a_lss (ifd (fun hc => bad fun hx => by omega) fun c9 => ?_)
    refine a_gtr (ifd (fun hc => bad fun hx => by omega) fun c10 => ?_)
    refine a_lss (ifd (fun hc => bad fun hx => by omega) fun c11 => ?_)
    refine a_gtr ⟨_, rfl, ?_, rfl⟩
    unfold okM
    by_cases hs : 60 < s
    · rw [decide_eq_true hs, decide_eq_false fun hx => by omega]; rfl
    · rw [decide_eq_false hs, decide_eq_true (by omega)]; rfl
/-- hblref1.made -/
theorem madeR_spec {off : Int} (ho : -400000 ≤ off ∧ off ≤ 400000) (k : RR (.tuple #[.int .i64 (rangeP y mo d h mi s off).1, .int .i64 (rangeP y mo d h mi s off).2]) W) :
    CallF Tryd.prog 70 #[.int .i64 y, .int .i64 mo, .int .i64 d, .int .i64 h, .int .i64 mi, .int .i64 s, .int .i64 off] W RR := by
  refine sh70_calls ?_
  unfold sh70
  have hr := makeP_rng y mo d h mi s
  unfold rangeP at k
  refine makeR_spec ?_
  refine a_ext0 (a_ext1 (a_not (ifnb (fun hm => ?_) fun hm => ?_)))
  · rw [hm] at k; exact k
  rw [hm, Bool.true_and] at k
  refine a_sub64 (by omega) (by omega) ?_
  refine inR_spec (a_not (ifnb (fun hw => ?_) fun hw => ?_))
  · rw [hw] at k; exact k
  rw [hw] at k
  refine a_sub64 (by omega) (by omega) ?_
  exact k
/-- hblref1.offset -/
theorem offsetR_spec {c : UInt8} (k : RR (.tuple #[.int .i64 ((offR h mi (some c)).getD 0), .bool (offR h mi (some c)).isSome]) W) : CallF Tryd.prog 71 #[.int .i64 h, .int .i64 mi, byteV c] W RR := by
  refine sh71_calls ?_
  unfold sh71
  have bad : (h < 0 ∨ 23 < h ∨ mi < 0 ∨ 59 < mi) → RR (.tuple #[.int .i64 0, .bool false]) W := fun hb => by
    rw [show offR h mi (some c) = none by unfold offR; rw [if_pos hb]] at k; exact k
  refine a_lss (ifd (fun hc => bad (by omega)) fun h1 => ?_)
  refine a_gtr (ifd (fun hc => bad (by omega)) fun h2 => ?_)
  refine a_lss (ifd (fun hc => bad (by omega)) fun h3 => ?_)
  refine a_gtr (ifd (fun hc => bad (by omega)) fun h4 => ?_)
  rw [show offR h mi (some c) = some (if c = 45 then -(h * 3600 + mi * 60) else h * 3600 + mi * 60) by
    unfold offR; rw [if_neg (by omega)]; simp only [Option.some.injEq]] at k
  refine w_eqC 45 rfl (ifd (fun hc => ?_) fun hc => ?_)
  · rw [if_pos hc] at k
    refine a_mul64 (by omega) (by omega) (a_mul64 (by omega) (by omega) (a_add64 (by omega) (by omega) (a_neg ?_)))
    rw [wrap64 (by omega) (by omega), show 0 - (h * 3600 + mi * 60) = -(h * 3600 + mi * 60) by omega]
    exact k
  · rw [if_neg hc] at k
    exact a_mul64 (by omega) (by omega) (a_mul64 (by omega) (by omega) (a_add64 (by omega) (by omega) k))
end
section
variable {w0 W W' : World} {G : Nat → Prop} {l R : List As} {RR : Value → World → Prop} {s z : Txt} {a n : Nat}
theorem dg_not {i : Nat} {c : UInt8} (hi : i < n) (hc : s[a + i]? = some c) (hd : isDig c = false) : dg s a n = -1 := by
  rcases dg_cases s a n with ⟨_, g2, _⟩ | ⟨_, g⟩
  · exfalso
    have hm : c ∈ (s.drop a).take n := by
      refine List.mem_of_getElem? (i := i) ?_
      rw [List.getElem?_take, if_pos hi, List.getElem?_drop]
      exact hc
    rw [List.all_eq_true.1 g2 c hm] at hd
    cases hd
  · exact g
/-- hblref1.digits -/
theorem digR_spec (ha : a + n ≤ 1000000) (k : ∀ v : Int, (n ≤ 9 → v = dg s a n) → RR (.int .i64 v) W) : CallF Tryd.prog 68 #[strV s, nV .i64 a, nV .i64 n] W RR := by
  refine sh68_calls ?_
  unfold sh68
  refine a_lss (ifd_neg (by omega) (a_add64 (by omega) (by omega) (x_len (a_gtr (ifd (fun hc => ?_) fun hc => ?_)))))
  · refine k _ fun _ => ?_
    rcases dg_cases s a n with ⟨g, _⟩ | ⟨_, g⟩
    · omega
    · exact g.symm
  refine lpx (α := Int × Nat) (fun x => [.int .i64 x.1, nV .i64 (a + x.2)]) (fun x W' => x.2 ≤ n ∧ ((s.drop a).take x.2).all isDig = true ∧ (n ≤ 9 → x.1 = numV ((s.drop a).take x.2) 0) ∧ W' = W) (fun x => n - x.2) (0, 0) (fun _ => rfl) rfl ⟨Nat.zero_le _, rfl, fun _ => rfl, rfl⟩ ?_
  rintro next ⟨v, i⟩ W1 hnext ⟨hi, hall, hv, rfl⟩
  replace hi : i ≤ n := hi
  replace hall : ((s.drop a).take i).all isDig = true := hall
  replace hv : n ≤ 9 → v = numV ((s.drop a).take i) 0 := hv
  refine app2 ?_
  refine a_add64 (by omega) (by omega) (a_lss (ifd (fun hlt => ?_) fun hlt => ?_))
  · replace hlt : ((a + i : Nat) : Int) < (a : Int) + (n : Int) := hlt
    obtain ⟨c, hcv⟩ : ∃ c, s[a + i]? = some c := ⟨_, List.getElem?_eq_getElem (by omega)⟩
    have hc8 := c.toNat_lt
    have nd : isDig c = false → RR (.int .i64 (-1)) W1 := fun hd => k _ fun _ => (dg_not (by omega) hcv hd).symm
    refine x_index hcv (a_lss (ifd (fun h1 => nd (by unfold isDig; rw [decide_eq_false (by omega)]; rfl)) fun h1 => ?_))
    refine x_index hcv (a_gtr (ifd (fun h2 => nd (by unfold isDig; rw [decide_eq_false (show ¬ c.toNat ≤ 57 by omega), Bool.and_false])) fun h2 => ?_))
    have hd : isDig c = true := by unfold isDig; rw [decide_eq_true (by omega), decide_eq_true (by omega)]; rfl
    refine a_mul (x_index hcv (a_sub ?_))
    rw [show IntKind.u8.wrap ((c.toNat : Int) - 48) = ((c.toNat - 48 : Nat) : Int) by
      rw [show ((c.toNat : Int) - 48) = ((c.toNat - 48 : Nat) : Int) by omega]
      exact wrap_nat (k := .u8) (by simp only [IntKind.max, IntKind.bits, IntKind.signed]; simp; omega)]
    refine v_convN Tryd.underlying5 Tryd.underlying3 (by simp only [IntKind.max, IntKind.bits, IntKind.signed]; simp; omega) ?_
    refine a_add (a_add64 (by omega) (by omega) ⟨rfl, rfl, rfl, ?_⟩)
    rw [show (((a + i : Nat) : Int) + 1) = ((a + (i + 1) : Nat) : Int) by push_cast; omega]
    have ht : (s.drop a).take (i + 1) = (s.drop a).take i ++ [c] := by
      rw [List.take_add_one, List.getElem?_drop, hcv]; rfl
    refine hnext (_, i + 1) W1 (by show n - (i + 1) < n - i; omega) ⟨by show i + 1 ≤ n; omega, ?_, fun h9 => ?_, rfl⟩
    · show ((s.drop a).take (i + 1)).all isDig = true
      rw [ht, List.all_append, hall]; simp [hd]
    · show IntKind.i64.wrap (IntKind.i64.wrap (10 * v) + ((c.toNat - 48 : Nat) : Int)) = numV ((s.drop a).take (i + 1)) 0
      rw [ht, numV_append]
      have hv9 := hv h9
      obtain ⟨n1, n2⟩ := numV_rng ((s.drop a).take i) 0 (Int.le_refl _) fun d hdm => List.all_eq_true.1 hall d hdm
      have n3 : (10 ^ ((s.drop a).take i).length : Nat) ≤ 1000000000 := by
        have : (10 : Nat) ^ ((s.drop a).take i).length ≤ 10 ^ 9 := Nat.pow_le_pow_right (by decide) (by rw [List.length_take]; omega)
        exact this
      have w1 : IntKind.i64.wrap (10 * v) = 10 * v := wrap64 (by omega) (by omega)
      rw [w1, wrap64 (by omega) (by omega)]
      omega
  · replace hlt : ¬ ((a + i : Nat) : Int) < (a : Int) + (n : Int) := hlt
    obtain rfl : i = n := by omega
    refine k v fun h9 => ?_
    rcases dg_cases s a i with ⟨_, _, g, _⟩ | ⟨g, _⟩
    · rw [hv h9, g]
    · exact absurd ⟨by omega, hall⟩ g
/-- hblref1.place -/
theorem placeR_spec {ls : List Txt} {v : Value} (hs : Sl W 1 v ls.length (ls.map strV)) (hl : ls.length ≤ 1000000) (k : RR (.int .i64 (plc ls s)) W) : CallF Tryd.prog 66 #[v, strV s] W RR := by
  refine sh66_calls ?_
  unfold sh66
  refine lpx (α := Nat) (fun i => [nV .i64 i]) (fun i W' => i ≤ ls.length ∧ (∀ j, j < i → ls[j]? ≠ some s) ∧ W' = W) (fun i => ls.length - i) 0 (fun _ => rfl) rfl ⟨Nat.zero_le _, fun j h => absurd h (Nat.not_lt_zero _), rfl⟩ ?_
  rintro next i W1 hnext ⟨hi, hno, rfl⟩
  refine app1 ?_
  refine x_lenS hs (a_lss (ifd (fun hc => ?_) fun hc => ?_))
  · obtain ⟨p, hp⟩ : ∃ p, ls[i]? = some p := ⟨_, List.getElem?_eq_getElem (by omega)⟩
    refine x_at hs (u := strV p) (by rw [List.getElem?_map, hp]; rfl) ?_
    refine w_eqlL (ifd (fun he => ?_) fun he => ?_)
    · subst he
      rw [plc_at hno hp] at k
      exact k
    · refine a_add64 (by omega) (by omega) ⟨rfl, rfl, ?_⟩
      rw [show ((i : Int) + 1) = ((i + 1 : Nat) : Int) by push_cast; rfl]
      refine hnext (i + 1) W1 (by omega) ⟨by omega, fun j hj => ?_, rfl⟩
      by_cases hji : j < i
      · exact hno j hji
      · obtain rfl : j = i := by omega
        rw [hp]; exact fun e => he (Option.some.inj e)
  · rw [plc_no fun j hj => hno j (by have := (List.getElem?_eq_some_iff.1 hj).1; omega) hj] at k
    exact k
/-- hblref1.zone -/
theorem zoneR_spec (h : St w0 G l W) (k : ∀ W', St w0 G l W' → RR (.tuple #[.int .i64 ((zoneR z).getD 0), .bool (zoneR z).isSome]) W') : CallF Tryd.prog 69 #[strV z] W RR := by
  refine sh69_calls ?_
  unfold sh69
  refine jni (fun vs W' => vs = [strV z] ∧ ¬ (z.length = 5 ∧ (z[0]? = some 43 ∨ z[0]? = some 45)) ∧ W' = W) ?_ ?_
  · rintro vs W' _ ⟨rfl, hz, rfl⟩
    refine app1 ?_
    replace k := k W' h
    rw [show zoneR z = zoneN z by unfold zoneR; rw [if_neg hz]] at k
    unfold zoneN at k
    refine jni (fun vs V' => ∃ b : Bool, vs = [strV z, .bool b] ∧ b = decide (z = [71, 77, 84] ∨ z = [85, 84] ∨ z = [90]) ∧ V' = W') ?_ ?_
    · rintro vs V' _ ⟨b, rfl, rfl, rfl⟩
      refine app2 (ifd (fun h0 => ?_) fun h0 => ?_)
      · rw [if_pos h0] at k; exact k
      rw [if_neg h0] at k
      refine w_eqlL (b := [69, 68, 84]) (ifd (fun h1 => ?_) fun h1 => ?_)
      · rw [if_pos h1] at k; exact k
      rw [if_neg h1] at k
      refine jni (fun vs V'' => ∃ b : Bool, vs = [strV z, .bool b] ∧ b = decide (z = [69, 83, 84] ∨ z = [67, 68, 84]) ∧ V'' = V') ?_ ?_
      · rintro vs V'' _ ⟨b, rfl, rfl, rfl⟩
        refine app2 (ifd (fun h2 => ?_) fun h2 => ?_)
        · rw [if_pos h2] at k; exact k
        rw [if_neg h2] at k
        refine jni (fun vs V' => ∃ b : Bool, vs = [strV z, .bool b] ∧ b = decide (z = [67, 83, 84] ∨ z = [77, 68, 84]) ∧ V' = V'') ?_ ?_
        · rintro vs V' _ ⟨b, rfl, rfl, rfl⟩
          refine app2 (ifd (fun h3 => ?_) fun h3 => ?_)
          · rw [if_pos h3] at k; exact k
          rw [if_neg h3] at k
          refine jni (fun vs V'' => ∃ b : Bool, vs = [strV z, .bool b] ∧ b = decide (z = [77, 83, 84] ∨ z = [80, 68, 84]) ∧ V'' = V') ?_ ?_
          · rintro vs V'' _ ⟨b, rfl, rfl, rfl⟩
            refine app2 (ifd (fun h4 => ?_) fun h4 => ?_)
            · rw [if_pos h4] at k; exact k
            rw [if_neg h4] at k
            refine w_eqlL (b := [80, 83, 84]) (ifd (fun h5 => ?_) fun h5 => ?_)
            · rw [if_pos h5] at k; exact k
            · rw [if_neg h5] at k; exact k
          · refine w_eqlL (b := [77, 83, 84]) (ifd (fun c => ⟨true, by simp [c], by simp [c], rfl⟩) fun c => ?_)
            refine w_eqlL (b := [80, 68, 84]) ⟨_, rfl, decide_eq_decide.2 ⟨fun e => .inr e, fun e => e.resolve_left c⟩, rfl⟩
        · refine w_eqlL (b := [67, 83, 84]) (ifd (fun c => ⟨true, by simp [c], by simp [c], rfl⟩) fun c => ?_)
          refine w_eqlL (b := [77, 68, 84]) ⟨_, rfl, decide_eq_decide.2 ⟨fun e => .inr e, fun e => e.resolve_left c⟩, rfl⟩
      · refine w_eqlL (b := [69, 83, 84]) (ifd (fun c => ⟨true, by simp [c], by simp [c], rfl⟩) fun c => ?_)
        refine w_eqlL (b := [67, 68, 84]) ⟨_, rfl, decide_eq_decide.2 ⟨fun e => .inr e, fun e => e.resolve_left c⟩, rfl⟩
    · refine w_eqlL (b := [71, 77, 84]) (ifd (fun c => ⟨true, by simp [c], by simp [c], rfl⟩) fun c => ?_)
      refine jni (fun vs V' => ∃ b : Bool, vs = [strV z, .bool b] ∧ b = decide (z = [85, 84] ∨ z = [90]) ∧ V' = W') ?_ ?_
      · rintro vs V' _ ⟨b, rfl, rfl, rfl⟩
        exact app2 ⟨_, rfl, decide_eq_decide.2 ⟨fun e => .inr e, fun e => e.resolve_left c⟩, rfl⟩
      refine w_eqlL (b := [85, 84]) (ifd (fun c => ⟨true, by simp [c], by simp [c], rfl⟩) fun c => ?_)
      refine w_eqlL (b := [90]) ⟨_, rfl, decide_eq_decide.2 ⟨fun e => .inr e, fun e => e.resolve_left c⟩, rfl⟩
  · refine x_len (w_eql (ifd (fun h5 => ?_) fun h5 => ⟨rfl, fun hh => h5 (by omega), rfl⟩))
    obtain ⟨c, hc⟩ : ∃ c, z[0]? = some c := ⟨_, List.getElem?_eq_getElem (by omega)⟩
    have ok : ∀ W', (c = 43 ∨ c = 45) → St w0 G l W' → RR (.tuple #[.int .i64 ((offR (dg z 1 2) (dg z 3 2) (some c)).getD 0), .bool (offR (dg z 1 2) (dg z 3 2) (some c)).isSome]) W' := fun W' h4 h => by
      have := k W' h
      rw [show zoneR z = offR (dg z 1 2) (dg z 3 2) (some c) by
        unfold zoneR
        rw [if_pos ⟨by omega, h4.elim (fun e => .inl (by rw [hc, e])) (fun e => .inr (by rw [hc, e]))⟩, hc]] at this
      exact this
    refine x_index (i := 0) hc (w_eqC 43 rfl (ifd (fun c43 => ?_) fun c43 => ?_))
    · refine ⟨St w0 G l, h.drew, ?_⟩
      replace h := h.drew
      refine x_index (i := 0) hc ?_
      refine digR_spec (a := 1) (n := 2) (by decide) fun v1 e1 => digR_spec (a := 3) (n := 2) (by decide) fun v2 e2 => ?_
      rw [e1 (by decide), e2 (by decide)]
      exact offsetR_spec (a_ext0 (a_ext1 (ok _ (.inl c43) h)))
    refine x_index (i := 0) hc (w_eqC 45 rfl (ifd (fun c45 => ?_) fun c45 => ?_))
    · refine ⟨St w0 G l, h.drew, ?_⟩
      replace h := h.drew
      refine x_index (i := 0) hc ?_
      refine digR_spec (a := 1) (n := 2) (by decide) fun v1 e1 => digR_spec (a := 3) (n := 2) (by decide) fun v2 e2 => ?_
      rw [e1 (by decide), e2 (by decide)]
      exact offsetR_spec (a_ext0 (a_ext1 (ok _ (.inr c45) h)))
    · refine ⟨rfl, fun hh => ?_, rfl⟩
      rw [hc] at hh
      rcases hh.2 with e | e
      · exact c43 (Option.some.inj e)
      · exact c45 (Option.some.inj e)
/-- hblref1.two -/
theorem twoR_spec {n : Nat} (h : St w0 G l W) (hn : n ≤ 100000) (k : ∀ W', St w0 G l W' → RR (strV (digL n 2)) W') : CallF Tryd.prog 75 #[nV .i64 n] W RR := by
  refine sh75_calls ?_
  unfold sh75
  refine a_quo64 (by omega) (by omega) (by decide) (a_rem64 (by omega) (by decide) (a_add64 (by omega) (by omega) ?_))
  rw [show (48 + (n : Int) / 10 % 10) = ((48 + n / 10 % 10 : Nat) : Int) by omega]
  refine v_byte Tryd.underlying3 Tryd.underlying5 (a_rem64 (by omega) (by decide) (a_add64 (by omega) (by omega) ?_))
  rw [show (48 + (n : Int) % 10) = ((48 + n % 10 : Nat) : Int) by omega]
  refine v_byte Tryd.underlying3 Tryd.underlying5 ?_
  refine h.lit fun v W _ h => ?_
  refine x_str (l := digL n 2) (by rw [two_lit]; exact h.osl (v := v)) ?_
  exact k W h.to
theorem digL_four (y : Nat) : digL (y / 100) 2 ++ digL y 2 = digL y 4 := by
  unfold digL digL digL digL digL digC
  simp only [Nat.pow_one, Nat.pow_zero, Nat.div_one, List.cons_append, List.nil_append]
  rw [show y / 100 / 10 = y / 10 ^ 3 by omega, show y / 100 = y / 10 ^ 2 by omega]
/-- hblref1.Date -/
theorem dateR_spec {t : Int} (h : St w0 G l W) (k0 : within t = false → RR (.tuple #[strV [], .int .i64 1]) W)
    (k : within t = true → ∀ y mo d W', DayIs (t / 86400) y mo d → St w0 G l W' → RR (.tuple #[strV (dateS y mo d (t % 86400).toNat), .int .i64 0]) W') : CallF Tryd.prog 34 #[.int .i64 t] W RR := by
  refine sh34_calls ?_
  unfold sh34
  refine inR_spec (a_not (ifnb (fun hw => k0 hw) fun hw => ?_))
  replace k := k hw
  obtain ⟨t0, t1⟩ := of_decide_eq_true hw
  refine a_quo64 (by omega) (by omega) (by decide) (a_rem64 (by omega) (by decide) ?_)
  have n0 : 0 ≤ t / 86400 := by omega
  have n1 : t / 86400 < 2932897 := by omega
  have s0 : 0 ≤ t % 86400 := by omega
  have s1 : t % 86400 < 86400 := by omega
  obtain ⟨s, hs⟩ := Int.eq_ofNat_of_zero_le s0
  generalize t / 86400 = n at *
  rw [hs] at k s1 ⊢
  rw [Int.toNat_natCast] at k
  clear s0 hs t0 t1 hw k0
  have f10 : firstD 10000 = 2932897 := by decide
  have f70 : firstD 1970 = 0 := by decide
  refine lpx (α := Nat) (fun y => [nV .i64 y]) (fun y W' => 1970 ≤ y ∧ y ≤ 9999 ∧ firstD y ≤ n ∧ W' = W) (fun y => 10000 - y) 1970 (fun _ => rfl) rfl ⟨by omega, by omega, by rw [show ((1970 : Nat) : Int) = 1970 from rfl, f70]; exact n0, rfl⟩ ?_
  rintro next y W1 hnext ⟨y1, y2, y3, rfl⟩
  refine app1 ?_
  refine a_add64 (by omega) (by omega) (firstR_spec (by omega) (by omega) (a_leq (ifd (fun hc => ?_) fun hc => ?_)))
  · refine a_add64 (by omega) (by omega) ⟨rfl, rfl, ?_⟩
    have hy : y + 1 ≤ 9999 := by
      rcases Nat.lt_or_ge y 9999 with h | h
      · omega
      · have := firstD_mono (y := 10000) (z := (y : Int) + 1) (by omega) (by omega)
        omega
    rw [show ((y : Int) + 1) = ((y + 1 : Nat) : Int) by push_cast; rfl] at hc ⊢
    exact hnext (y + 1) _ (by omega) ⟨by omega, hy, hc, rfl⟩
  refine firstR_spec (by omega) (by omega) ?_
  obtain ⟨hf, hf'⟩ := firstD_rng (y := y) (by omega) (by omega)
  refine a_sub64 (by omega) (by omega) ?_
  refine lpx (α := Nat) (fun i => [.int .i64 (n - firstD y - sumL y i), nV .i64 (i + 1)]) (fun i W' => i ≤ 11 ∧ 0 ≤ n - firstD y - sumL y i ∧ W' = W1) (fun i => 12 - i) 0 (fun _ => rfl) (by simp [sumL]) ⟨by omega, by simp [sumL]; omega, rfl⟩ ?_
  clear hnext
  rintro next i W2 hnext ⟨i1, i2, rfl⟩
  refine app2 ?_
  refine lengthR_spec (by omega) (a_geq (ifd (fun hc2 => ?_) fun hc2 => ?_))
  · refine lengthR_spec (by omega) ?_
    have hl := lenM_ge y ((i + 1 : Nat) : Int)
    have hl2 := lenM_le y ((i + 1 : Nat) : Int)
    have hs0 := sumL_ge y i
    refine a_sub64 (by omega) (by omega) (a_add64 (by omega) (by omega) ⟨rfl, rfl, ?_⟩)
    have hi := month_in (n := n) (y := y) (i := i) (by omega) (by omega) i1 hc2
    rw [show (((i + 1 : Nat) : Int) + 1) = ((i + 1 + 1 : Nat) : Int) by push_cast; rfl, show n - firstD y - sumL y i - lenM y ((i + 1 : Nat) : Int) = n - firstD y - sumL y (i + 1) by rw [show sumL y (i + 1) = sumL y i + lenM y ((i + 1 : Nat) : Int) from rfl]; omega]
    exact hnext (i + 1) _ (by omega) ⟨hi, by rw [show sumL y (i + 1) = sumL y i + lenM y ((i + 1 : Nat) : Int) from rfl]; omega, rfl⟩
  have hday := dayIs_of (n := n) (y := y) (i := i) (d := n - firstD y - sumL y i) (by omega) y2 i1 rfl i2 (by omega)
  obtain ⟨d, hd⟩ := Int.eq_ofNat_of_zero_le i2
  have hl2 := lenM_le y ((i + 1 : Nat) : Int)
  have hs0 := sumL_ge y i
  rw [hd] at hday hc2 ⊢
  rw [Int.toNat_natCast] at hday
  replace k := fun W' => k y (i + 1) (d + 1) W' hday
  refine a_quo64 (by omega) (by omega) (by decide) ?_
  rw [show ((y : Int) / 100) = ((y / 100 : Nat) : Int) by omega]
  refine twoR_spec h (by omega) fun W h => twoR_spec h (by omega) fun W h => ?_
  refine a_cat (by simp [digL_len]) (a_cat (m := [45]) (by simp [digL_len]) ?_)
  rw [digL_four]
  refine twoR_spec h (by omega) fun W h => ?_
  refine a_cat (by simp [digL_len]) (a_cat (m := [45]) (by simp [digL_len]) ?_)
  refine a_add64 (by omega) (by omega) ?_
  rw [show ((d : Int) + 1) = ((d + 1 : Nat) : Int) by push_cast; rfl]
  refine twoR_spec h (by omega) fun W h => ?_
  refine a_cat (by simp [digL_len]) (a_cat (m := [84]) (by simp [digL_len]) ?_)
  refine a_quo64 (by omega) (by omega) (by decide) ?_
  rw [show ((s : Int) / 3600) = ((s / 3600 : Nat) : Int) by omega]
  refine twoR_spec h (by omega) fun W h => ?_
  refine a_cat (by simp [digL_len]) (a_cat (m := [58]) (by simp [digL_len]) ?_)
  refine a_quo64 (by omega) (by omega) (by decide) (a_rem64 (by omega) (by decide) ?_)
  rw [show ((s : Int) / 60 % 60) = ((s / 60 % 60 : Nat) : Int) by omega]
  refine twoR_spec h (by omega) fun W h => ?_
  refine a_cat (by simp [digL_len]) (a_cat (m := [58]) (by simp [digL_len]) ?_)
  refine a_rem64 (by omega) (by decide) ?_
  rw [show ((s : Int) % 60) = ((s % 60 : Nat) : Int) by omega]
  refine twoR_spec h (by omega) fun W h => ?_
  refine a_cat (by simp [digL_len]) (a_cat (m := [90]) (by simp [digL_len]) ?_)
  exact k W h
/-- hblref.Split at a blank -/
theorem splitR_spec (h : St w0 G l W) (hl : s.length ≤ 100000) (k : ∀ v W', St w0 G (Ky v (StrO (splA 32 [] s)) :: l) W' → RR v W') : CallF Tryd.prog 67 #[strV s, .int .u8 32] W RR := by
  refine sh67_calls ?_
  unfold sh67
  refine lpx (α := Value × List Txt × Nat × Nat) (fun x => [x.1, nV .i64 x.2.2.1, nV .i64 x.2.2.2])
    (fun x W' => x.2.2.2 ≤ s.length + 1 ∧ x.2.1.length ≤ x.2.2.2 ∧ (x.2.2.2 ≤ s.length → x.2.2.1 ≤ x.2.2.2 ∧ x.2.1 ++ splA 32 ((s.drop x.2.2.1).take (x.2.2.2 - x.2.2.1)) (s.drop x.2.2.2) = splA 32 [] s) ∧ (x.2.2.2 = s.length + 1 → x.2.1 = splA 32 [] s) ∧ St w0 G (Ky x.1 (StrO x.2.1) :: l) W')
    (fun x => s.length + 2 - x.2.2.2) (.slice none 0 0, [], 0, 0) (fun _ => rfl) rfl ⟨by simp, Nat.le_refl _, fun _ => ⟨Nat.le_refl _, by simp⟩, fun hh => absurd hh (by simp), h.nilOw⟩ ?_
  clear h
  rintro next ⟨v, out, fr, i⟩ W1 hnext ⟨hi, ho, hv, he, h⟩
  simp only at hi ho hv he h
  refine app3 ?_
  refine x_len (a_leq (ifd (fun hc => ?_) fun hc => ?_))
  rotate_left
  · replace hc : ¬ (i : Int) ≤ (s.length : Int) := hc
    obtain rfl := he (by omega)
    exact k v W1 h
  replace hc : (i : Int) ≤ (s.length : Int) := hc
  obtain ⟨hfi, hv⟩ := hv (by omega)
  refine jni (fun vs W' => ∃ v' out' fr', vs = [strV s, .int .u8 32, v', nV .i64 fr', nV .i64 i] ∧ out'.length ≤ i + 1 ∧ (i + 1 ≤ s.length → fr' ≤ i + 1 ∧ out' ++ splA 32 ((s.drop fr').take (i + 1 - fr')) (s.drop (i + 1)) = splA 32 [] s) ∧ (i + 1 = s.length + 1 → out' = splA 32 [] s) ∧ St w0 G (Ky v' (StrO out') :: l) W') ?_ ?_
  · rintro vs W' _ ⟨v', out', fr', rfl, g1, g2, g3, h⟩
    refine app5 (a_add64 (show -9223372036854775808 ≤ (i : Int) + 1 by omega) (show (i : Int) + 1 ≤ 9223372036854775807 by omega) ⟨rfl, rfl, ?_⟩)
    rw [show ((i : Int) + 1) = ((i + 1 : Nat) : Int) by push_cast; rfl]
    exact hnext (v', out', fr', i + 1) W' (by show s.length + 2 - (i + 1) < s.length + 2 - i; omega) ⟨by show i + 1 ≤ _; omega, g1, g2, g3, h⟩
  have stO : ∀ {u : Value} {W'}, St w0 G (Ky u (Ow 9 1 (out.length + 1) (out.map strV ++ [strV ((s.drop fr).take (i - fr))])) :: l) W' → St w0 G (Ky u (StrO (out ++ [(s.drop fr).take (i - fr)])) :: l) W' := fun {u W'} h => by
    unfold StrO; rw [List.length_append, List.map_append]; exact h
  refine x_len (w_eql (ifd (fun hc2 => ?_) fun hc2 => ?_))
  · replace hc2 : (i : Int) = (s.length : Int) := hc2
    refine x_cut (lo := fr) (hi := i) (by omega) (by omega) ?_
    refine h.push (v := v) (by unfold maxLen; omega) (by omega) fun v' W' o' h _ => ?_
    refine a_add64 (a := (i : Int)) (b := 1) (by omega) (by omega) ?_
    rw [show ((i : Int) + 1) = ((i + 1 : Nat) : Int) by push_cast; rfl]
    refine ⟨v', out ++ [(s.drop fr).take (i - fr)], i + 1, rfl, by rw [List.length_append]; show out.length + 1 ≤ _; omega, fun hh => by omega, fun _ => ?_, stO h⟩
    rw [List.drop_of_length_le (show s.length ≤ i by omega)] at hv
    exact hv
  · replace hc2 : ¬ (i : Int) = (s.length : Int) := hc2
    obtain ⟨c, hcv⟩ : ∃ c, s[i]? = some c := ⟨_, List.getElem?_eq_getElem (by omega)⟩
    have hdrop : s.drop i = c :: s.drop (i + 1) := by
      obtain ⟨hk1, hk2⟩ := List.getElem?_eq_some_iff.1 hcv
      rw [List.drop_eq_getElem_cons hk1, hk2]
    rw [hdrop] at hv
    refine x_index hcv (w_eqC 32 rfl (ifd (fun h32 => ?_) fun h32 => ?_))
    · subst h32
      rw [splA_hit] at hv
      refine x_cut (lo := fr) (hi := i) (by omega) (by omega) ?_
      refine h.push (v := v) (by unfold maxLen; omega) (by omega) fun v' W' o' h _ => ?_
      refine a_add64 (a := (i : Int)) (b := 1) (by omega) (by omega) ?_
      rw [show ((i : Int) + 1) = ((i + 1 : Nat) : Int) by push_cast; rfl]
      refine ⟨v', out ++ [(s.drop fr).take (i - fr)], i + 1, rfl, by rw [List.length_append]; show out.length + 1 ≤ _; omega, fun hh => ⟨Nat.le_refl _, ?_⟩, fun hh => by omega, stO h⟩
      rw [Nat.sub_self, List.take_zero, List.append_assoc]
      exact hv
    · rw [splA_miss h32] at hv
      refine ⟨v, out, fr, rfl, by omega, fun hh => ⟨by omega, ?_⟩, fun hh => by omega, h⟩
      rw [show i + 1 - fr = (i - fr) + 1 by omega, List.take_add_one, List.getElem?_drop, show fr + (i - fr) = i by omega, hcv]
      exact hv
end
end Go.Proofs.YtififikdlcohpaaDoor
