/-
  TextEscapes, TextSigns: the walks.
-/
import Derived.Test.YtififikdlcohpaaDoorTtF
import Derived.Test.YtififikdlcohpaaDoorTtW
namespace Go.Proofs.YtififikdlcohpaaDoor
open Go Go.Ez Go.RowKit Go.Lib
set_option linter.unusedSimpArgs false
set_option linter.unusedVariables false
section
variable {P : Program} {K : Value → Prop} {X Y X1 Y1 X2 Y2 X3 Y3 X4 Y4 : Operand} {t ts : TypeId} {dl : Txt} {n : Nat}
theorem hx_cut {j : Nat} [u : Und P ts .string] (hd : dl.length = 16) (hj : j < 16) (k : K (strV [dl.getD j 0])) :
    RunA P (bin .add t X Y (nV .i64 j) (.int .i64 1)) fun t3 => RunA P (Instr.sliceAt ts (strV dl) (some (nV .i64 j)) (some t3) none) K := by
  refine a_add64 (by omega) (by omega) ?_
  rw [show ((j : Int) + 1) = ((j + 1 : Nat) : Int) by push_cast; rfl]
  refine x_cut (by omega) (by omega) ?_
  have e : (dl.drop j).take (j + 1 - j) = [dl.getD j 0] := by
    rw [show j + 1 - j = 1 by omega, List.drop_eq_getElem_cons (by omega), List.getD_eq_getElem?_getD, List.getElem?_eq_getElem (by omega)]
    rfl
  rw [e]; exact k
theorem hx_top [u : Und P ts .string] (hd : dl.length = 16) (f : Nat → UInt8) (hf : ∀ j, f j = dl.getD j 0) (hn : n < 65536) (k : K (strV [f (n / 4096)])) :
    RunA P (bin .shr t X Y (nV .i64 n) (.int .u64 12)) fun t1 => RunA P (bin .shr t X1 Y1 (nV .i64 n) (.int .u64 12)) fun t2 => RunA P (bin .add t X2 Y2 t2 (.int .i64 1)) fun t3 => RunA P (Instr.sliceAt ts (strV dl) (some t1) (some t3) none) K := by
  refine a_shrN (m := 12) (by decide) (a_shrN (m := 12) (by decide) ?_)
  rw [hf] at k
  exact hx_cut (j := n / 2 ^ 12) hd (by omega) k
theorem hx_mid (s q : Nat) (hq : 2 ^ s = q) [u : Und P ts .string] (hd : dl.length = 16) (f : Nat → UInt8) (hf : ∀ j, f j = dl.getD j 0) (hn : n < 65536) (hs : s ≤ 64) (k : K (strV [f (n / q % 16)])) :
    RunA P (bin .shr t X Y (nV .i64 n) (nV .u64 s)) fun t1 => RunA P (bin .and t X1 Y1 t1 (.int .i64 15)) fun t2 => RunA P (bin .shr t X2 Y2 (nV .i64 n) (nV .u64 s)) fun t3 => RunA P (bin .and t X3 Y3 t3 (.int .i64 15)) fun t4 => RunA P (bin .add t X4 Y4 t4 (.int .i64 1)) fun t5 => RunA P (Instr.sliceAt ts (strV dl) (some t2) (some t5) none) K := by
  have hle : n / 2 ^ s ≤ n := Nat.div_le_self _ _
  rw [hf] at k
  subst hq
  have e15 : n / 2 ^ s &&& 15 = n / 2 ^ s % 16 := Nat.and_two_pow_sub_one_eq_mod _ 4
  refine a_shrN hs (a_andN (m := 15) (le_i64 (by omega)) (le_i64 (by omega)) ?_)
  refine a_shrN hs (a_andN (m := 15) (le_i64 (by omega)) (le_i64 (by omega)) ?_)
  rw [e15]
  exact hx_cut hd (by omega) k
theorem hx_low [u : Und P ts .string] (hd : dl.length = 16) (f : Nat → UInt8) (hf : ∀ j, f j = dl.getD j 0) (hn : n < 65536) (k : K (strV [f (n % 16)])) :
    RunA P (bin .and t X1 Y1 (nV .i64 n) (.int .i64 15)) fun t2 => RunA P (bin .and t X3 Y3 (nV .i64 n) (.int .i64 15)) fun t4 => RunA P (bin .add t X4 Y4 t4 (.int .i64 1)) fun t5 => RunA P (Instr.sliceAt ts (strV dl) (some t2) (some t5) none) K := by
  have e15 : n &&& 15 = n % 16 := Nat.and_two_pow_sub_one_eq_mod _ 4
  refine a_andN (m := 15) (le_i64 (by omega)) (le_i64 (by omega)) ?_
  refine a_andN (m := 15) (le_i64 (by omega)) (le_i64 (by omega)) ?_
  rw [e15]
  rw [hf] at k
  exact hx_cut hd (by omega) k
theorem hex4_join (p : Txt) (f : Nat → UInt8) (n : Nat) : p ++ [f (n / 4096)] ++ [f (n / 256 % 16)] ++ [f (n / 16 % 16)] ++ [f (n % 16)] = p ++ hex4 f n := by simp [hex4]
end
section
variable {P : Program} {w0 W W' : World} {G : Nat → Prop} {l R : List As}
/-- '[]rune(s)[0]' of one sign -/
theorem rune0 {src dst e : TypeId} {bytes n : Nat} {z z' : Value} {K : Value → World → Prop} [u : Und P src .string] [u1 : Und P e (.int .i32)] [S : SlT P dst e 1 bytes z] [T : Ty1 P e z'] (h : St w0 G l W) (hn : okSg n)
    (k : ∀ W', St w0 G l W' → K (nV .i32 n) W') : RunV P (convert src dst (strV (Go.Ez.utf n))) W fun t w => RunA P (Instr.indexAt dst t (.int .i64 0)) fun p => RunW P (Instr.loadAt e p) w fun v => K v w := by
  have hr := runes_utf hn
  refine .of (run_runes_of_string W src dst e ⟨(Go.Ez.utf n).toArray⟩ u.eq S.el.und u1.eq (by rw [hr]; show (1 : Nat) ≤ 70368744177664; decide)) ?_
  rw [hr]
  refine a_indexAt S.el.und S.el.size (by omega) (show (0 : Int) < ((1 : Nat) : Int) by decide) ?_
  refine w_load T.agg (v := nV .i32 n) ?_ ?_
  · show (W.drew.alloc _).cell? ⟨W.heap.size, 0, none⟩ = _
    rw [show W.heap.size = W.drew.heap.size from rfl, World.cell?_alloc_mark, Array.getElem?_append_left (show 0 < 1 by decide)]
    rfl
  · exact k _ (h.drew.ext ((Below.refl _ W.drew).alloc (Nat.le_refl _) _))
end
section
variable {w0 W W' : World} {l R : List As} {RR : Value → World → Prop} {t s : Txt} {n : Nat} {v : Value}
theorem sign_or (a : Int) : ((signS a) = ([], false) ∧ ¬ ((0 ≤ a ∧ a < 55296) ∨ (57343 < a ∧ a ≤ 1114111))) ∨ (∃ n : Nat, a = n ∧ okSg n ∧ signS a = (Go.Ez.utf n, true)) := by
  unfold signS okSg
  by_cases h : (0 ≤ a ∧ a < 55296) ∨ (57343 < a ∧ a ≤ 1114111)
  · exact .inr ⟨a.toNat, by omega, by omega, if_pos h⟩
  · exact .inl ⟨if_neg h, h⟩
theorem count_utf {n : Nat} (h : okSg n) : countS (Go.Ez.utf n) = 1 := by unfold countS; rw [if_pos (valid_utf h).1, (valid_utf h).2]; rfl
/-- hbllaw3.TextSigns -/
theorem signs3_spec {a b : Int} (hT : Tabs w0) (h : St w0 G0 l W) (k : ∀ W', St w0 G0 l W' → RR (.bool true) W') : CallF Tryd.prog 7 #[.int .i64 a, .int .i64 b] W RR := by
  refine sh7_calls ?_
  unfold sh7
  refine first3_spec hT h fun W h => ?_
  refine a_not (iff' ?_)
  refine tsign_spec (a_ext0 (a_ext1 ?_))
  refine tsign_spec (a_ext0 (a_ext1 ?_))
  refine jni (fun vs W' => vs = [.int .i64 a, .int .i64 b, strV (signS a).1, .bool (signS a).2, strV (signS b).1, .bool (signS b).2, .bool (signS a).2] ∧ W' = W) ?_ ?_
  rotate_left
  · have yes : ((0 ≤ a ∧ a < 55296) ∨ (57343 < a ∧ a ≤ 1114111)) → (signS a).2 = true := fun hc => by unfold signS; rw [if_pos hc]
    have no : ¬ ((0 ≤ a ∧ a < 55296) ∨ (57343 < a ∧ a ≤ 1114111)) → (signS a).2 = false := fun hc => by unfold signS; rw [if_neg hc]
    refine a_geq (ifd (fun c1 => a_leq (ifd (fun c2 => a_lss (ifd (fun c3 => ⟨?_, rfl⟩) fun c3 => a_gtr ⟨?_, rfl⟩)) fun c2 => ⟨?_, rfl⟩)) fun c1 => ⟨?_, rfl⟩)
    · rw [yes (by omega)]
    · by_cases c4 : (57343 : Int) < a
      · rw [yes (by omega), decide_eq_true c4]
      · rw [no (by omega), decide_eq_false c4]
    · rw [no (by omega)]
    · rw [no (by omega)]
  rintro vs W' _ ⟨rfl, rfl⟩
  refine app7 ?_
  refine jni (fun vs W' => vs = [.int .i64 a, .int .i64 b, strV (signS a).1, .bool (signS a).2, strV (signS b).1, .bool (signS b).2] ∧ St w0 G0 l W') ?_ ?_
  rotate_left
  · rcases sign_or a with ⟨e, _⟩ | ⟨n, rfl, hn, e⟩
    · rw [e]
      refine x_neb (iff' ?_)
      refine a_not (ift ?_)
      refine w_neqL (b := []) (ifd_neg (by simp) ?_)
      exact iff' ⟨rfl, h⟩
    · rw [e]
      have hl := utf_lenN n
      refine x_neb (iff' ?_)
      refine a_not (iff' ?_)
      refine ift ?_
      refine tcount_spec hT h (by dsimp only; omega) fun W h => ?_
      rw [count_utf hn]
      refine w_neq (ifd_neg (by simp) ?_)
      refine x_len (a_lss (ifd_neg (by dsimp only; omega) ?_))
      refine x_len (a_gtr (ifd_neg (by dsimp only; omega) ?_))
      refine rune0 h hn fun W h => ?_
      refine x_nat (le_i32 (by unfold okSg at hn; omega)) ?_
      exact w_neq (ifd_neg (by simp) ⟨rfl, h⟩)
  clear h
  rintro vs W1 _ ⟨rfl, h⟩
  refine app6 ?_
  rcases sign_or a with ⟨e, _⟩ | ⟨n, rfl, hn, e⟩
  · rw [e]; exact a_not (ift (first3_spec hT h k))
  rw [e]
  refine a_not (iff' ?_)
  rcases sign_or b with ⟨e, _⟩ | ⟨m, rfl, hm, e⟩
  · rw [e]; exact a_not (ift (first3_spec hT h k))
  rw [e]
  refine a_not (iff' ?_)
  have hln := utf_lenN n
  have hlm := utf_lenN m
  refine jni (fun vs W' => vs = [nV .i64 n, nV .i64 m, strV (Go.Ez.utf n), strV (Go.Ez.utf m)] ∧ St w0 G0 l W') ?_ ?_
  rotate_left
  · refine a_lss (ifd (fun hc => ?_) fun hc => ⟨rfl, h⟩)
    have hn6 : n < 65536 := by omega
    refine ⟨St w0 G0 l, h.drew, ?_⟩
    replace h := h.drew
    refine hx_top (dl := digs16) rfl hexd (fun _ => rfl) hn6 (a_cat (l := [34, 92, 117]) (by simp only [List.length_append, List.length_cons, List.length_nil]; decide) ?_)
    refine hx_mid (dl := digs16) 8 256 rfl rfl hexd (fun _ => rfl) hn6 (by decide) (a_cat (by simp only [List.length_append, List.length_cons, List.length_nil]; decide) ?_)
    refine hx_mid (dl := digs16) 4 16 rfl rfl hexd (fun _ => rfl) hn6 (by decide) (a_cat (by simp only [List.length_append, List.length_cons, List.length_nil]; decide) ?_)
    refine hx_low (dl := digs16) rfl hexd (fun _ => rfl) hn6 (a_cat (by simp only [List.length_append, List.length_cons, List.length_nil]; decide) (a_cat (m := [34]) (by simp only [List.length_append, List.length_cons, List.length_nil]; decide) ?_))
    rw [hex4_join]
    refine tunq_spec (a := 0) hT h (by simp only [hex4, List.length_append, List.length_cons, List.length_nil]; decide) fun W h => ?_
    rw [unq_hexd hn6 (by unfold okSg at hn; omega)]
    refine a_ext0 (a_ext1 (a_ext2 ?_))
    refine w_neq (ifd_neg (by simp) ?_)
    exact w_neqL (ifd_neg (by simp) ⟨rfl, h⟩)
  clear h
  rintro vs W2 _ ⟨rfl, h⟩
  refine app4 ?_
  refine first3_spec hT h fun W h => ift ?_
  refine a_cat (by omega) ?_
  refine tcount_spec hT h (by rw [List.length_append]; omega) fun W h => ?_
  obtain ⟨v1, v2⟩ := valid_append (Go.Ez.utf n).length (b := Go.Ez.utf m) (Nat.le_refl _) (valid_utf hn).1
  have ec : countS (Go.Ez.utf n ++ Go.Ez.utf m) = 2 := by
    unfold countS
    rw [if_pos (v1.trans (valid_utf hm).1), v2, (valid_utf hn).2, (valid_utf hm).2]
    rfl
  refine w_eql (ifd_pos ec ?_)
  refine w_eqlL (w_eql (x_eqb ?_))
  have : (decide (Go.Ez.utf n = Go.Ez.utf m) == decide ((n : Int) = (m : Int))) = true := by
    by_cases hnm : n = m
    · subst hnm; simp
    · have h1 : ¬ Go.Ez.utf n = Go.Ez.utf m := fun e => hnm (utf_inj hn hm e)
      have h2 : ¬ ((n : Int) = (m : Int)) := by omega
      simp [h1, h2]
  rw [this]
  exact k W h
/-- hbllaw3.TextEscapes -/
theorem escapes3_spec {a : Int} (hT : Tabs w0) (h : St w0 G0 l W) (k : ∀ W', St w0 G0 l W' → RR (.bool true) W') : CallF Tryd.prog 5 #[strV s, .int .i64 a] W RR := by
  refine sh5_calls ?_
  unfold sh5
  refine first3_spec hT h fun W h => ?_
  refine a_not (iff' ?_)
  refine x_len (a_gtr (ifd (fun _ => first3_spec hT h k) fun c1 => ?_))
  refine tquote_spec hT h (by omega) fun W h => ?_
  refine a_ext0 (a_ext1 ?_)
  cases hv : validD s with
  | false =>
    rw [quoteS_no hv]
    refine w_neq (ifd_pos (by simp) ?_)
    refine first3_spec hT h fun W h => ift ?_
    refine tvalid_spec hT h (by omega) fun W h => ?_
    rw [hv]
    exact a_not (k W h)
  | true =>
    rw [quoteS_yes hv]
    dsimp only
    refine w_neq (ifd_neg (by simp) ?_)
    have hqs := qBs_len s
    refine lpx (α := Nat × Nat) (fun A => [nV .i64 (2 + (qBs (s.take A.1)).length), nV .i64 A.2, nV .i64 A.1]) (fun A W' => A.1 ≤ s.length ∧ A.2 ≤ A.1 ∧ (A.2 = 0 → qBs (s.take A.1) = s.take A.1) ∧ (A.2 ≠ 0 → A.1 < (qBs (s.take A.1)).length) ∧ A.1 ≤ (qBs (s.take A.1)).length ∧ W' = W) (fun A => s.length - A.1) (0, 0) (fun _ => rfl) rfl
      ⟨Nat.zero_le _, Nat.le_refl _, fun _ => rfl, fun h => absurd rfl h, Nat.zero_le _, rfl⟩ ?_
    rintro next ⟨i, z⟩ W1 hnext ⟨hi, hz, hz0, hz1, hil, rfl⟩
    simp only at hi hz hz0 hz1 hil
    refine app3 ?_
    refine x_len (a_lss (ifd (fun hc => ?_) fun hc => ?_))
    · have hlt : i < s.length := by omega
      have hci : s[i]? = some s[i] := List.getElem?_eq_getElem hlt
      generalize s[i] = c at hci
      have htk : qBs (s.take (i + 1)) = qBs (s.take i) ++ qB c := by rw [take_next hci, qBs_append, qBs_one]
      have htl : (s.take i).length = i := by rw [List.length_take]; omega
      have hql := qBs_len (s.take i)
      refine jni (fun vs W' => ∃ m z' : Nat, vs = [strV s, .int .i64 a, strV (quoteB s), nV .i64 (2 + (qBs (s.take i)).length + m), nV .i64 z', nV .i64 i] ∧ m = (qB c).length ∧ ((z' = z ∧ qB c = [c]) ∨ (z' = z + 1 ∧ 2 ≤ m)) ∧ W' = W1) ?_ ?_
      · rintro vs W' _ ⟨m, z', rfl, hm, hcase, rfl⟩
        refine app6 ?_
        refine a_add64 (by omega) (by omega) ⟨rfl, rfl, rfl, ?_⟩
        have e1 : (2 + (qBs (s.take i)).length + m : Nat) = 2 + (qBs (s.take (i + 1))).length := by rw [htk, List.length_append, hm]; omega
        rw [e1, show ((i : Int) + 1) = ((i + 1 : Nat) : Int) by push_cast; rfl]
        refine hnext (i + 1, z') _ (by simp only; omega) ⟨by simp only; omega, ?_, ?_, ?_, ?_, rfl⟩
        · simp only; rcases hcase with ⟨h1, _⟩ | ⟨h1, _⟩ <;> omega
        · simp only
          intro hzz
          rcases hcase with ⟨h1, h2⟩ | ⟨h1, _⟩
          · rw [htk, h2, hz0 (by omega), take_next hci]
          · omega
        · simp only
          intro hzz
          rw [htk, List.length_append, ← hm]
          rcases hcase with ⟨h1, h2⟩ | ⟨h1, h2⟩
          · have := hz1 (by omega)
            have : m = 1 := by rw [hm, h2]; rfl
            omega
          · omega
        · simp only
          rw [htk, List.length_append, ← hm]
          rcases hcase with ⟨h1, h2⟩ | ⟨h1, h2⟩
          · have : m = 1 := by rw [hm, h2]; rfl
            omega
          · omega
      · have two : ∀ {K : Value → Value → Prop} {t : TypeId} {X Y X' Y' : Operand}, letB c.toNat ≠ 0 → (K (nV .i64 (2 + (qBs (s.take i)).length + 2)) (nV .i64 (z + 1))) → RunA Tryd.prog (bin .add t X Y (nV .i64 (2 + (qBs (s.take i)).length)) (.int .i64 2)) fun v1 => RunA Tryd.prog (bin .add t X' Y' (nV .i64 z) (.int .i64 1)) fun v2 => K v1 v2 := by
          intro K t X Y X' Y' hl hk
          refine a_add64 (by omega) (by omega) (a_add64 (by omega) (by omega) ?_)
          rw [show (((2 + (qBs (s.take i)).length : Nat) : Int) + 2) = ((2 + (qBs (s.take i)).length + 2 : Nat) : Int) by push_cast; rfl, show ((z : Int) + 1) = ((z + 1 : Nat) : Int) by push_cast; rfl]
          exact hk
        have fin2 : letB c.toNat ≠ 0 → ∃ m z' : Nat, [strV s, .int .i64 a, strV (quoteB s), nV .i64 (2 + (qBs (s.take i)).length + 2), nV .i64 (z + 1), nV .i64 i] = [strV s, .int .i64 a, strV (quoteB s), nV .i64 (2 + (qBs (s.take i)).length + m), nV .i64 z', nV .i64 i] ∧ m = (qB c).length ∧ ((z' = z ∧ qB c = [c]) ∨ (z' = z + 1 ∧ 2 ≤ m)) ∧ W1 = W1 := fun hl => by
          rcases qB_cases c with ⟨_, h2⟩ | ⟨h1, _⟩ | ⟨h1, _⟩
          · exact ⟨2, z + 1, rfl, h2.symm, .inr ⟨rfl, Nat.le_refl _⟩, rfl⟩
          · exact absurd h1 hl
          · exact absurd h1 hl
        refine x_index hci (x_eqB (b := 34) (ifd (fun e => two (by rw [e]; decide) (fin2 (by rw [e]; decide))) fun n1 => ?_))
        refine x_index hci (x_eqB (b := 92) (ifd (fun e => two (by rw [e]; decide) (fin2 (by rw [e]; decide))) fun n2 => ?_))
        refine x_index hci (x_eqB (b := 8) (ifd (fun e => two (by rw [e]; decide) (fin2 (by rw [e]; decide))) fun n3 => ?_))
        refine x_index hci (x_eqB (b := 9) (ifd (fun e => two (by rw [e]; decide) (fin2 (by rw [e]; decide))) fun n4 => ?_))
        refine x_index hci (x_eqB (b := 10) (ifd (fun e => two (by rw [e]; decide) (fin2 (by rw [e]; decide))) fun n5 => ?_))
        refine x_index hci (x_eqB (b := 12) (ifd (fun e => two (by rw [e]; decide) (fin2 (by rw [e]; decide))) fun n6 => ?_))
        refine x_index hci (x_eqB (b := 13) (ifd (fun e => two (by rw [e]; decide) (fin2 (by rw [e]; decide))) fun n7 => ?_))
        have ne : ∀ {d : UInt8}, ¬ c = d → c.toNat ≠ d.toNat := fun hd e => hd (UInt8.toNat_inj.1 e)
        have hl0 : letB c.toNat = 0 := by
          have m1 : ¬ c.toNat = 34 := ne n1; have m2 : ¬ c.toNat = 92 := ne n2; have m3 : ¬ c.toNat = 8 := ne n3; have m4 : ¬ c.toNat = 9 := ne n4; have m5 : ¬ c.toNat = 10 := ne n5; have m6 : ¬ c.toNat = 12 := ne n6; have m7 : ¬ c.toNat = 13 := ne n7
          unfold letB
          rw [if_neg m1, if_neg m2, if_neg m3, if_neg m6, if_neg m5, if_neg m7, if_neg m4]
        refine jni (fun vs W' => ∃ m z' : Nat, vs = [strV s, .int .i64 a, strV (quoteB s), nV .i64 (2 + (qBs (s.take i)).length + m), nV .i64 z', nV .i64 i] ∧ m = (qB c).length ∧ ((z' = z ∧ qB c = [c]) ∨ (z' = z + 1 ∧ 2 ≤ m)) ∧ W' = W1) (by
          rintro vs W' _ ⟨m, z', rfl, hh⟩
          exact app6 ⟨m, z', rfl, hh⟩) ?_
        refine x_index hci (a_lss (ifd (fun hy => ?_) fun hy => ?_))
        · refine a_add64 (by dsimp only; omega) (by dsimp only; omega) (a_add64 (by dsimp only; omega) (by dsimp only; omega) ?_)
          dsimp only
          rw [show (((2 + (qBs (s.take i)).length : Nat) : Int) + 6) = ((2 + (qBs (s.take i)).length + 6 : Nat) : Int) by push_cast; rfl, show ((z : Int) + 1) = ((z + 1 : Nat) : Int) by push_cast; rfl]
          rcases qB_cases c with ⟨h1, _⟩ | ⟨_, _, h2⟩ | ⟨_, h1, _⟩
          · exact absurd hl0 h1
          · exact ⟨6, z + 1, rfl, h2.symm, .inr ⟨rfl, by decide⟩, rfl⟩
          · omega
        · refine a_add64 (by dsimp only; omega) (by dsimp only; omega) ?_
          dsimp only
          rw [show (((2 + (qBs (s.take i)).length : Nat) : Int) + 1) = ((2 + (qBs (s.take i)).length + 1 : Nat) : Int) by push_cast; rfl]
          rcases qB_cases c with ⟨h1, _⟩ | ⟨_, h1, _⟩ | ⟨_, _, h2⟩
          · exact absurd hl0 h1
          · omega
          · exact ⟨1, z, rfl, by rw [h2]; rfl, .inl ⟨rfl, h2⟩, rfl⟩
    · obtain rfl : i = s.length := by omega
      rw [List.take_length] at hz0 hz1 hil ⊢
      have hb := quoteB_len s
      refine x_len (w_neq (ifd_neg (by rw [hb]; omega) ?_))
      refine w_eql (a_cat (l := [34]) (by simp; omega) (a_cat (m := [34]) (by simp; omega) (w_eqlL (x_neb ?_))))
      have hE : (decide ((z : Int) = 0) == decide (quoteB s = [34] ++ s ++ [34])) = true := by
        by_cases hzz : z = 0
        · have e1 : quoteB s = [34] ++ s ++ [34] := by unfold quoteB; rw [hz0 hzz]; rfl
          subst hzz
          rw [decide_eq_true e1]
          rfl
        · have h2 : ¬ ((z : Int) = 0) := by omega
          have h1 : ¬ (quoteB s = [34] ++ s ++ [34]) := fun e => by
            have := congrArg List.length e
            rw [hb] at this
            simp at this
            have := hz1 hzz
            omega
          rw [decide_eq_false h1, decide_eq_false h2]
          rfl
      rw [hE]
      refine iff' ?_
      refine a_lss (ifd (fun _ => first3_spec hT h k) fun g1 => ?_)
      refine a_gtr (ifd (fun _ => first3_spec hT h k) fun g2 => ?_)
      obtain ⟨n, rfl⟩ : ∃ n : Nat, a = (65536 + n : Nat) := ⟨(a - 65536).toNat, by omega⟩
      have hn : n < 1048576 := by omega
      refine a_sub64 (by omega) (by omega) ?_
      rw [show (((65536 + n : Nat) : Int) - 65536) = (n : Int) by omega]
      refine a_shrN (m := 10) (by decide) (a_add64 (by omega) (by omega) ?_)
      rw [show ((55296 : Int) + ((n / 2 ^ 10 : Nat) : Int)) = ((55296 + n / 1024 : Nat) : Int) by rw [show (2 : Nat) ^ 10 = 1024 from rfl]; omega]
      refine a_sub64 (by omega) (by omega) ?_
      rw [show (((65536 + n : Nat) : Int) - 65536) = (n : Int) by omega]
      refine a_andN (m := 1023) (le_i64 (by omega)) (le_i64 (by omega)) ?_
      rw [show n &&& 1023 = n % 1024 from Nat.and_two_pow_sub_one_eq_mod n 10]
      refine a_add64 (by omega) (by omega) ?_
      rw [show ((56320 : Int) + ((n % 1024 : Nat) : Int)) = ((56320 + n % 1024 : Nat) : Int) by omega]
      have A : 55296 + n / 1024 < 65536 := by omega
      have B : 56320 + n % 1024 < 65536 := by omega
      have hu := unq_hexu hn
      refine ⟨St w0 G0 l, h.drew, ?_⟩
      replace h := h.drew
      refine hx_top (dl := digsU) rfl hexu (fun _ => rfl) A (a_cat (l := [34, 92, 117]) (by simp only [List.length_append, List.length_cons, List.length_nil]; decide) ?_)
      refine hx_mid (dl := digsU) 8 256 rfl rfl hexu (fun _ => rfl) A (by decide) (a_cat (by simp only [List.length_append, List.length_cons, List.length_nil]; decide) ?_)
      refine hx_mid (dl := digsU) 4 16 rfl rfl hexu (fun _ => rfl) A (by decide) (a_cat (by simp only [List.length_append, List.length_cons, List.length_nil]; decide) ?_)
      refine hx_low (dl := digsU) rfl hexu (fun _ => rfl) A (a_cat (by simp only [List.length_append, List.length_cons, List.length_nil]; decide) (a_cat (m := [92, 117]) (show (7 + 2 : Nat) ≤ 9223372036854775807 by decide) ?_))
      refine hx_top (dl := digsU) rfl hexu (fun _ => rfl) B (a_cat (by simp only [List.length_append, List.length_cons, List.length_nil]; decide) ?_)
      refine hx_mid (dl := digsU) 8 256 rfl rfl hexu (fun _ => rfl) B (by decide) (a_cat (by simp only [List.length_append, List.length_cons, List.length_nil]; decide) ?_)
      refine hx_mid (dl := digsU) 4 16 rfl rfl hexu (fun _ => rfl) B (by decide) (a_cat (by simp only [List.length_append, List.length_cons, List.length_nil]; decide) ?_)
      refine hx_low (dl := digsU) rfl hexu (fun _ => rfl) B (a_cat (by simp only [List.length_append, List.length_cons, List.length_nil]; decide) (a_cat (m := [34]) (show (13 + 1 : Nat) ≤ 9223372036854775807 by decide) ?_))
      rw [hex4_join, hex4_join]
      refine tunq_spec (a := 0) hT h (by simp only [hex4, List.length_append, List.length_cons, List.length_nil]; decide) fun W h => ?_
      rw [hu]
      refine a_ext0 (a_ext1 (a_ext2 ?_))
      refine tsign_spec (a_ext0 (a_ext1 ?_))
      have hs : signS ((65536 + n : Nat) : Int) = (Go.Ez.utf (65536 + n), true) := by
        unfold signS; rw [if_pos (by omega), Int.toNat_natCast]
      rw [hs]
      refine first3_spec hT h fun W h => ift ?_
      refine w_eql (ifd_pos rfl ?_)
      refine ift ?_
      refine w_eqlL (ifd_pos rfl ?_)
      exact w_eql (k W h)
end
end Go.Proofs.YtififikdlcohpaaDoor
