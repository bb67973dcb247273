/-
  TOKENS: two tokens held against one another; unlike tokens have unlike texts: the walk.
-/
import Derived.Test.YtknbnfpdcbpoeaaTokD
import Derived.Laws.StructEq
namespace Go.Proofs.Ytknbnfpdcbpoeaa
open Go Go.Ez Go.RowKit Go.Lib
set_option linter.unusedSimpArgs false
set_option linter.unusedVariables false

theorem eql_tok {u u' k k' : List UInt8} {f f' t t' : Int} {X Y : Operand} (w : World) :
    (bin .eql 46 X Y (tkV u f t k) (tkV u' f' t' k')).run Try.prog w = .ok (.bool (decide (u = u' ∧ f = f' ∧ t = t' ∧ k = k'))) w := by
  have ht : Try.prog.underlying 46 = some (.struct (Try.prog.fieldsOf 46)) := by rw [Try.underlying46]; simp [Program.fieldsOf, Try.underlying46]
  have hf : Try.prog.fieldsOf 46 = match Try.prog.underlying 46 with | some (.struct fs) => fs | _ => #[] := rfl
  rw [Try.underlying46] at hf
  have hg : Try.prog.eqGuardType Try.prog.depth 46 = false := by kernel_rfl
  have hs : Try.prog.stoodInHeld 46 = false := by kernel_rfl
  show (do eqGuard .eql 46 X Y (tkV u f t k) (tkV u' f' t' k'); binOp .eql 46 (tkV u f t k) (tkV u' f' t' k') : Sem Value).run Try.prog w = _
  simp only [Sem.run_bind, run_eqGuard_agg w .eql 46 X Y _ _ hg, Result.andThen, run_eql_struct, run_equalIn_agg w 9999 46 _ _ ht hs, hf]
  have es : ∀ (d : Nat) (a b : List UInt8), (Op.equalIn (d + 1) 9 (strV a) (strV b)).run Try.prog w = .ok (decide (a = b)) w := fun d a b => by
    rw [run_equalIn_string w d 9 _ _ Try.underlying9]
    rw [bytes_eq]
  have ei : ∀ (d : Nat) (a b : Int), (Op.equalIn (d + 1) 3 (.int .i64 a) (.int .i64 b)).run Try.prog w = .ok (decide (a = b)) w := fun d a b => by
    rw [run_equalIn_int w d 3 .i64 .i64 a b Try.underlying3]
    rfl
  by_cases h1 : u = u' <;> by_cases h2 : f = f' <;> by_cases h3 : t = t' <;> by_cases h4 : k = k' <;>
    simp [Op.eqFields, go_sem, es 9998, ei 9998, h1, h2, h3, h4, Result.andThen]

/-- each sign of a text of digits is one -/
theorem hex_signs (l : List UInt8) : ∀ c ∈ hexL l, (48 ≤ c.toNat ∧ c.toNat ≤ 57) ∨ (97 ≤ c.toNat ∧ c.toNat ≤ 102) := by
  intro c hc
  unfold hexL at hc
  rw [List.mem_flatMap] at hc
  obtain ⟨b, _, hb⟩ := hc
  have := b.toNat_lt
  simp only [List.mem_cons, List.not_mem_nil, or_false] at hb
  rcases hb with rfl | rfl
  · exact dig_is _ (by omega)
  · exact dig_is _ (by omega)

/-- unlike tokens have unlike texts -/
theorem tokS_inj {u u' k k' : List UInt8} {f f' t t' : Int} (h : mayT u f t k) (h' : mayT u' f' t' k') (e : tokS u f.toNat t.toNat k = tokS u' f'.toNat t'.toNat k') : u = u' ∧ f = f' ∧ t = t' ∧ k = k' := by
  have m := mayT_nat h
  have m' := mayT_nat h'
  obtain ⟨e1, e2, e3, e4, _⟩ := tokB_inj (by omega) (by omega) (by omega) (by omega) (by omega) (by omega) (by omega) (by omega) (hexL_inj e)
  exact ⟨e1, by omega, by omega, e4⟩

/-- hbllaw22.TokenApart -/
theorem apart_spec {u u' k k' : List UInt8} {f f' t t' : Int} {w : World} {R : Value → World → Prop} (hu : u.length ≤ 9223372036854775807) (hk : k.length ≤ 9223372036854775807) (hu' : u'.length ≤ 9223372036854775807) (hk' : k'.length ≤ 9223372036854775807)
    (h : ∀ w', Below w.heap.size w w' → R (.bool true) w') : CallF Try.prog 6 #[tkV u f t k, tkV u' f' t' k'] w R := by
  refine sh6_calls ?_
  unfold sh6
  refine v_boxRec fun w1 z1 r1 m1 => ?_
  refine v_boxRec fun w2 z2 r2 m2 => ?_
  have c2 := Below.next m1 m2
  replace r1 := r1.below m2
  refine first22_spec fun w3 m3 => ?_
  have c3 := Below.next c2 m3
  replace r1 := r1.below m3
  replace r2 := r2.below m3
  refine a_not (iff' ?_)
  have G0 : ∀ {K : Value → Prop}, K (strV u) → RunA Try.prog (Instr.fieldAt 42 (.pointer (some ⟨w.heap.size, 0, none⟩)) 0) fun p => RunW Try.prog (Instr.loadAt 9 p) w3 K := fun hK => a_field Try.underlying42 rfl Try.sizeOf9 (by decide) (w_recF Try.isAgg9 r1 rfl hK)
  have G3 : ∀ {K : Value → Prop}, K (strV k) → RunA Try.prog (Instr.fieldAt 42 (.pointer (some ⟨w.heap.size, 0, none⟩)) 3) fun p => RunW Try.prog (Instr.loadAt 9 p) w3 K := fun hK => a_field Try.underlying42 rfl Try.sizeOf9 (by decide) (w_recF Try.isAgg9 r1 rfl hK)
  have G0' : ∀ {K : Value → Prop}, K (strV u') → RunA Try.prog (Instr.fieldAt 42 (.pointer (some ⟨w1.heap.size, 0, none⟩)) 0) fun p => RunW Try.prog (Instr.loadAt 9 p) w3 K := fun hK => a_field Try.underlying42 rfl Try.sizeOf9 (by decide) (w_recF Try.isAgg9 r2 rfl hK)
  have G3' : ∀ {K : Value → Prop}, K (strV k') → RunA Try.prog (Instr.fieldAt 42 (.pointer (some ⟨w1.heap.size, 0, none⟩)) 3) fun p => RunW Try.prog (Instr.loadAt 9 p) w3 K := fun hK => a_field Try.underlying42 rfl Try.sizeOf9 (by decide) (w_recF Try.isAgg9 r2 rfl hK)
  have end1 : ∀ w4, Below w.heap.size w w4 → CallF Try.prog 19 #[] w4 R := fun w4 c4 => first22_spec fun w5 m5 => h w5 (Below.next c4 m5)
  refine G0 (w_lenL Try.underlying9 ?_)
  refine G3 (w_lenL Try.underlying9 ?_)
  refine a_add ?_
  refine a_gtr (ifd (fun _ => end1 w3 c3) fun hc1 => ?_)
  refine G0' (w_lenL Try.underlying9 ?_)
  refine G3' (w_lenL Try.underlying9 ?_)
  refine a_add ?_
  refine a_gtr (ifd (fun _ => end1 w3 c3) fun hc2 => ?_)
  refine w_rec (cs := tkC u f t k) Try.isAgg42 Try.sizeOf42 r1 ?_
  refine print_all hu hk fun w4 m4 => ?_
  refine a_ext0 (a_ext1 ?_)
  have c4 := Below.next c3 m4
  have r2' := r2.below m4
  refine w_rec (cs := tkC u' f' t' k') Try.isAgg42 Try.sizeOf42 r2' ?_
  refine print_all hu' hk' fun w5 m5 => ?_
  refine a_ext0 (a_ext1 ?_)
  have c5 := Below.next c4 m5
  have r1'' := (r1.below m4).below m5
  have r2'' := r2'.below m5
  clear G0 G3 G0' G3' end1
  -- one of them is none
  have bad : ∀ w6, Below w5.heap.size w5 w6 → RunW Try.prog (bin .eql 25 (.tmp 49) (.const (.int .i64 0)) (.int .i64 (prE u f t k)) (.int .i64 0)) w6 fun x => IfB x
      (RunW Try.prog (bin .eql 25 (.tmp 58) (.const (.int .i64 0)) (.int .i64 (prE u' f' t' k')) (.int .i64 0)) w6 fun x => IfB x (R (.bool true) w6)
        (RunW Try.prog (Instr.loadAt 42 (.pointer (some ⟨w1.heap.size, 0, none⟩))) w6 fun x => CallF Try.prog 21 #[x] w6 fun x w => RunA Try.prog (Op.unary .not x) fun x => R x w))
      (RunW Try.prog (Instr.loadAt 42 (.pointer (some ⟨w.heap.size, 0, none⟩))) w6 fun x => CallF Try.prog 21 #[x] w6 fun x w6 => RunA Try.prog (Op.unary .not x) fun x => IfB x
        (RunW Try.prog (bin .eql 25 (.tmp 58) (.const (.int .i64 0)) (.int .i64 (prE u' f' t' k')) (.int .i64 0)) w6 fun x => IfB x (R (.bool true) w6)
          (RunW Try.prog (Instr.loadAt 42 (.pointer (some ⟨w1.heap.size, 0, none⟩))) w6 fun x => CallF Try.prog 21 #[x] w6 fun x w => RunA Try.prog (Op.unary .not x) fun x => R x w))
        (R (.bool false) w6)) := by
    have second : ∀ w6, Below w5.heap.size w5 w6 → RunW Try.prog (bin .eql 25 (.tmp 58) (.const (.int .i64 0)) (.int .i64 (prE u' f' t' k')) (.int .i64 0)) w6 fun x => IfB x (R (.bool true) w6)
        (RunW Try.prog (Instr.loadAt 42 (.pointer (some ⟨w1.heap.size, 0, none⟩))) w6 fun x => CallF Try.prog 21 #[x] w6 fun x w => RunA Try.prog (Op.unary .not x) fun x => R x w) := by
      intro w6 m6
      have c6 := Below.next c5 m6
      refine w_eql (ifd (fun _ => h w6 c6) fun hne => ?_)
      refine w_rec (cs := tkC u' f' t' k') Try.isAgg42 Try.sizeOf42 (r2''.below m6) ?_
      refine may_spec hu' hk' fun w7 m7 => ?_
      have hn : ¬ mayT u' f' t' k' := fun hm => hne (by unfold prE; rw [if_pos hm])
      rw [decide_eq_false hn]
      exact a_not (h w7 (Below.next c6 m7))
    intro w6 m6
    refine w_eql (ifd (fun _ => second w6 m6) fun hne => ?_)
    refine w_rec (cs := tkC u f t k) Try.isAgg42 Try.sizeOf42 (r1''.below m6) ?_
    refine may_spec hu hk fun w7 m7 => ?_
    have hn : ¬ mayT u f t k := fun hm => hne (by unfold prE; rw [if_pos hm])
    rw [decide_eq_false hn]
    exact a_not (ift (second w7 (m6.trans (m7.mono m6.size))))
  refine w_neq (ifd (fun _ => first22_spec fun w6 m6 => ift (bad w6 m6)) fun hm1 => ?_)
  refine w_neq (ifd (fun _ => first22_spec fun w6 m6 => ift (bad w6 m6)) fun hm2 => ?_)
  have hm : mayT u f t k := by
    refine Classical.byContradiction fun hn => hm1 ?_
    unfold prE; rw [if_neg hn]; decide
  have hm' : mayT u' f' t' k' := by
    refine Classical.byContradiction fun hn => hm2 ?_
    unfold prE; rw [if_neg hn]; decide
  have e1 : prS u f t k = tokS u f.toNat t.toNat k := by unfold prS; rw [if_pos hm]
  have e2 : prS u' f' t' k' = tokS u' f'.toNat t'.toNat k' := by unfold prS; rw [if_pos hm']
  rw [e1, e2]
  clear bad
  have mn := mayT_nat hm
  have hsl : (tokS u f.toNat t.toNat k).length ≤ 1000 := by
    have h1 := varB_len8 (n := f.toNat) (by omega)
    have h2 := varB_len8 (n := t.toNat) (by omega)
    have h3 := varB_len8 (n := u.length) (by omega)
    have h4 := varB_len8 (n := k.length) (by omega)
    unfold tokS tokB
    rw [hexL_length]
    simp only [List.length_append, be_length]
    omega
  have hsig : ∀ c ∈ tokS u f.toNat t.toNat k, (48 ≤ c.toNat ∧ c.toNat ≤ 57) ∨ (97 ≤ c.toNat ∧ c.toNat ≤ 102) := hex_signs _
  have heven : (tokS u f.toNat t.toNat k).length % 2 = 0 := by unfold tokS; rw [hexL_length]; omega
  have hinj := tokS_inj hm hm'
  have hcong : (u = u' ∧ f = f' ∧ t = t' ∧ k = k') → tokS u f.toNat t.toNat k = tokS u' f'.toNat t'.toNat k' := by rintro ⟨rfl, rfl, rfl, rfl⟩; rfl
  generalize tokS u f.toNat t.toNat k = s at *
  generalize tokS u' f'.toNat t'.toNat k' = s' at *
  refine lpx (α := Nat) (fun i => [nV .i64 i]) (fun i W => W = w5 ∧ i ≤ s.length) (fun i => s.length - i) 0 (fun _ => rfl) rfl ⟨rfl, Nat.zero_le _⟩ ?_
  rintro next i W hnext ⟨rfl, h1⟩
  refine app1 ?_
  refine w_lenL Try.underlying9 ?_
  refine a_lss (ifd (fun hc => ?_) fun hc => ?_)
  · have hil : i < s.length := by omega
    have hli := List.getElem?_eq_getElem hil
    have hsg := hsig _ (List.getElem_mem hil)
    generalize s[i] = c at hli hsg
    refine jni (fun vs W' => vs = [.pointer (some ⟨w.heap.size, 0, none⟩), .pointer (some ⟨w1.heap.size, 0, none⟩), strV s, strV s', nV .i64 i] ∧ W' = W) ?_ ?_
    · rintro vs W' _ ⟨rfl, rfl⟩
      refine app5 ?_
      refine a_add64 (by omega) (by omega) ⟨rfl, rfl, rfl, rfl, ?_⟩
      have e3 : ((i : Int) + 1) = ((i + 1 : Nat) : Int) := by push_cast; rfl
      rw [e3]
      exact hnext (i + 1) W' (by omega) ⟨rfl, by omega⟩
    · refine a_indexL Try.underlying9 hli ?_
      refine a_lss (ifd (fun h3 => by omega) fun h3 => ?_)
      refine a_indexL Try.underlying9 hli ?_
      refine a_gtr (ifd (fun h4 => ?_) fun h4 => ⟨rfl, rfl⟩)
      refine a_indexL Try.underlying9 hli ?_
      refine a_lss (ifd (fun h5 => by omega) fun h5 => ?_)
      refine a_indexL Try.underlying9 hli ?_
      exact a_gtr (ifd (fun h6 => by omega) fun h6 => ⟨rfl, rfl⟩)
  · refine ⟨fun w' => Below W.heap.size W w', (Below.refl _ _).drew, ?_⟩
    refine first22_spec fun w6 m6' => ?_
    have m6 : Below W.heap.size W w6 := ((Below.refl _ W).drew).trans m6'
    refine ⟨m6, ift ?_⟩
    refine s_lenL Try.underlying9 ?_
    refine a_rem64 (by omega) (by omega) ?_
    refine s_eql (ifd_pos (by omega) ?_)
    refine s_eqlL ?_
    have R1 : ∀ w', Below W.heap.size W w' → Rec w' w.heap.size 42 (tkC u f t k) := fun w' hw => r1''.below hw
    have R2 : ∀ w', Below W.heap.size W w' → Rec w' w1.heap.size 42 (tkC u' f' t' k') := fun w' hw => r2''.below hw
    refine s_rec (cs := tkC u f t k) Try.isAgg42 Try.sizeOf42 R1 ?_
    refine s_rec (cs := tkC u' f' t' k') Try.isAgg42 Try.sizeOf42 R2 ?_
    refine plain_spec fun w7 m7 => ?_
    have d7 := m6.trans (m7.mono m6.size)
    refine ⟨d7, plain_spec fun w8 m8 => ?_⟩
    have d8 := d7.trans (m8.mono d7.size)
    refine ⟨d8, RunS.of (fun w' _ => eql_tok w') ?_⟩
    have ebb : ∀ (S : World → Prop) (K : Value → Prop) (a b : Bool), K (.bool (a == b)) → RunS Try.prog S (bin .eql 4 (.tmp 104) (.tmp 109) (.bool a) (.bool b)) K := fun S K a b hK => by
      refine ⟨_, fun w' _ => ?_, hK⟩
      obtain ⟨v, hv, hk⟩ := w_eqlb (P := Try.prog) (w := w') (K := fun v => v = .bool (a == b)) (t := 4) (X := .tmp 104) (Y := .tmp 109) Try.underlying4 rfl
      rw [hv, hk]
    refine ebb _ _ _ _ ?_
    have e : (decide (s = s') == decide (u = u' ∧ f = f' ∧ t = t' ∧ k = k')) = true := by
      rw [decide_eq_decide.2 ⟨hinj, hcong⟩]
      exact beq_self_eq_true _
    rw [e]
    exact h w8 (Below.next c5 d8)

end Go.Proofs.Ytknbnfpdcbpoeaa
