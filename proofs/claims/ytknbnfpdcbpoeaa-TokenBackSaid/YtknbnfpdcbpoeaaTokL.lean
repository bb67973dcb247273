/-
  TOKENS: a text read by the program: what it answers.
-/
import Derived.Test.YtknbnfpdcbpoeaaTokK
namespace Go.Proofs.Ytknbnfpdcbpoeaa
open Go Go.Ez Go.RowKit Go.Lib
set_option linter.unusedSimpArgs false
set_option linter.unusedVariables false

/-- where the bytes are a token's, the four parts are read back -/
theorem read_back {u k r : List UInt8} {f t : Nat} (hf : f < 72057594037927936) (ht : t < 72057594037927936) (hu : u.length < 72057594037927936) (hk : k.length < 72057594037927936) :
    let l := tokB u f t k ++ r
    let a1 := (varB f).length
    let a2 := a1 + (varB t).length
    let a3 := a2 + (varB u.length).length + u.length
    rvR l (0 : Nat) = (f, a1, 0) ∧ rvR l a1 = (t, a2, 0) ∧ rvR l a2 = (u.length, a2 + (varB u.length).length, 0) ∧ (l.drop (a2 + (varB u.length).length)).take u.length = u ∧
      rvR l a3 = (k.length, a3 + (varB k.length).length, 0) ∧ (l.drop (a3 + (varB k.length).length)).take k.length = k ∧ a3 + (varB k.length).length + k.length ≤ l.length := by
  have el : tokB u f t k ++ r = varB f ++ (varB t ++ (varB u.length ++ (u ++ (varB k.length ++ (k ++ r))))) := by simp only [tokB, List.append_assoc]
  simp only [el]
  have hlen : (varB f ++ (varB t ++ (varB u.length ++ (u ++ (varB k.length ++ (k ++ r)))))).length = (varB f).length + ((varB t).length + ((varB u.length).length + (u.length + ((varB k.length).length + (k.length + r.length))))) := by simp only [List.length_append]
  have d1 : (varB f ++ (varB t ++ (varB u.length ++ (u ++ (varB k.length ++ (k ++ r)))))).drop (varB f).length = varB t ++ (varB u.length ++ (u ++ (varB k.length ++ (k ++ r)))) := List.drop_left ..
  have d2 : (varB f ++ (varB t ++ (varB u.length ++ (u ++ (varB k.length ++ (k ++ r)))))).drop ((varB f).length + (varB t).length) = varB u.length ++ (u ++ (varB k.length ++ (k ++ r))) := by rw [← List.drop_drop, d1, List.drop_left]
  have d3 : (varB f ++ (varB t ++ (varB u.length ++ (u ++ (varB k.length ++ (k ++ r)))))).drop ((varB f).length + (varB t).length + (varB u.length).length) = u ++ (varB k.length ++ (k ++ r)) := by rw [← List.drop_drop, d2, List.drop_left]
  have d4 : (varB f ++ (varB t ++ (varB u.length ++ (u ++ (varB k.length ++ (k ++ r)))))).drop ((varB f).length + (varB t).length + (varB u.length).length + u.length) = varB k.length ++ (k ++ r) := by rw [← List.drop_drop, d3, List.drop_left]
  have d5 : (varB f ++ (varB t ++ (varB u.length ++ (u ++ (varB k.length ++ (k ++ r)))))).drop ((varB f).length + (varB t).length + (varB u.length).length + u.length + (varB k.length).length) = k ++ r := by rw [← List.drop_drop, d4, List.drop_left]
  refine ⟨?_, ?_, ?_, ?_, ?_, ?_, ?_⟩
  · have := rv_varB (l := varB f ++ (varB t ++ (varB u.length ++ (u ++ (varB k.length ++ (k ++ r)))))) (a := 0) hf (Nat.zero_le _) (List.drop_zero)
    simpa using this
  · exact rv_varB ht (by omega) d1
  · exact rv_varB hu (by omega) d2
  · rw [d3, List.take_left]
  · exact rv_varB hk (by omega) d4
  · rw [d5, List.take_left]
  · omega

theorem unhex_all {s : List UInt8} {w : World} {R : Value → World → Prop} (hl : s.length ≤ 1000000000)
    (h : ∀ ok l v' w', w'.ownsRow w.heap.size 5 1 v' l.length (bytesV l) → Below w.heap.size w w' → l.length ≤ s.length → (∀ m, s = hexL m → ok = true ∧ l = m) → R (.tuple #[v', .bool ok]) w') : CallF Try.prog 42 #[strV s] w R := by
  refine unhex_spec (by omega) (fun hn w' hw => h false [] _ w' own_nil hw (by simp) fun m hm => absurd hm (hn m)) fun m hm v' w' ho hw => h true m v' w' ho hw (by rw [hm, hexL_length]; omega) fun m' hm' => ⟨rfl, hexL_inj (hm.symm.trans hm')⟩
theorem rdText_all {B r a : Nat} {vb : Value} {l : List UInt8} {bad : Bool} {w : World} {R : Value → World → Prop} (hr : Rdr w B r vb l a bad) (hl : l.length ≤ 100000000000)
    (h : ∀ U a' bd w', Rdr w' B r vb l a' bd → Mod [r] w w' → U.length ≤ l.length → (rdB l a bad = false → rdA l a bad + rdN l a bad ≤ l.length → bd = false ∧ a' = rdA l a bad + rdN l a bad ∧ U = (l.drop (rdA l a bad)).take (rdN l a bad)) → R (strV U) w') : CallF Try.prog 44 #[.pointer (some ⟨r, 0, none⟩)] w R := by
  refine rdText_spec hr hl (fun hno a' w' h1 h2 => h [] a' true w' h1 h2 (by simp) fun hb hf => absurd ⟨hb, hf⟩ hno) fun hb hf w' h1 h2 => h _ _ false w' h1 h2 ?_ fun _ _ => ⟨rfl, rfl, rfl⟩
  rw [List.length_take, List.length_drop]
  omega

theorem rd_of {l : List UInt8} {a n a' : Nat} (h : rvR l (a : Int) = (n, a', 0)) : rdN l a false = n ∧ rdA l a false = a' ∧ rdB l a false = false := by
  unfold rdN rdA rdB
  rw [h]
  exact ⟨rfl, rfl, rfl⟩

/-- token.Parse -/
theorem parse_spec {s : List UInt8} {w : World} {R : Value → World → Prop} (hl : s.length ≤ 1000000000)
    (h1 : ∀ u f t k, mayT u f t k → tokS u f.toNat t.toNat k = s → ∀ w', Below w.heap.size w w' → R (.tuple #[tkV u f t k, .int .i64 0]) w')
    (h0 : (∀ u f t k, mayT u f t k → tokS u f.toNat t.toNat k ≠ s) → ∀ w', Below w.heap.size w w' → R (.tuple #[tkV [] 0 0 [], .int .i64 14]) w') : CallF Try.prog 24 #[strV s] w R := by
  refine sh24_calls ?_
  unfold sh24
  refine v_allocRec Try.zeroValue42 fun w1 z1 r1 m1 => ?_
  replace r1 : Rec w1 w.heap.size 42 (tkC [] 0 0 []) := r1
  refine unhex_all hl fun ok l vb w2 o2 m2 l2 hex2 => ?_
  refine a_ext0 (a_ext1 ?_)
  refine a_not ?_
  obtain ⟨ao, vn, vc, hvb⟩ : ∃ ao n c, vb = .slice ao n c := by
    obtain ⟨ao, cap, hv, _⟩ := Sl.of_own o2
    exact ⟨ao, _, cap, hv⟩
  refine v_build (places := #[(0, 1), (1, 1), (2, 1)]) (cells := #[vb, .int .i64 0, .bool (!ok)]) Try.zeroValue73 Try.underlying73 (fun w => by kernel_rfl) (by rw [hvb]; rfl) ?_
  refine v_boxRec (cs := [vb, .int .i64 0, .bool (!ok)]) fun w3 z3 r3 m3 => ?_
  have R3 : Rdr w3 w1.heap.size w2.heap.size vb l 0 (!ok) := ⟨r3, ownsRow_ext o2 m3, Nat.zero_le _⟩
  have c3 := Below.next (Below.next m1 m2) m3
  have hlt := c3.size
  have hw1 := m1.size
  have hw2 := m2.size
  refine rdNumber_all R3 (by omega) fun w4 R4 m4 => ?_
  refine rdNumber_all R4 (by omega) fun w5 R5 m5 => ?_
  refine rdText_all R5 (by omega) fun U a6 b6 w6 R6 m6 u6 g6 => ?_
  refine rdText_all R6 (by omega) fun Kk a7 b7 w7 R7 m7 u7 g7 => ?_
  have mm : Mod [w2.heap.size] w3 w7 := m4.trans (m5.trans (m6.trans m7))
  have c7 : Below w.heap.size w w7 := mm.below c3 (Nat.le_refl _) (by simp; omega)
  have n4 := rdN_lt (bad := !ok) R3.le
  have n5 := rdN_lt (bad := rdB l 0 (!ok)) R4.le
  have r7 : Rec w7 w.heap.size 42 (tkC [] 0 0 []) := ((r1.below m2).below m3).mod mm (by simp; omega)
  -- where the text is a token's, its parts have been read
  have good : ∀ u f t k, mayT u f t k → tokS u f.toNat t.toNat k = s → b7 = false ∧ U = u ∧ ((rdN l 0 (!ok) : Nat) : Int) = f ∧ ((rdN l (rdA l 0 (!ok)) (rdB l 0 (!ok)) : Nat) : Int) = t ∧ Kk = k := by
    intro u f t k hm hs
    obtain ⟨rfl, rfl⟩ := hex2 _ hs.symm
    have mn := mayT_nat hm
    obtain ⟨e1, e2, e3, e4, e5, e6, e7⟩ := read_back (u := u) (k := k) (f := f.toNat) (t := t.toNat) (r := be (crc (tokB u f.toNat t.toNat k)) 4) (by omega) (by omega) (by omega) (by omega)
    simp only [Bool.not_true] at g6 g7 ⊢
    generalize tokB u f.toNat t.toNat k ++ be (crc (tokB u f.toNat t.toNat k)) 4 = l at *
    obtain ⟨q1, q2, q3⟩ := rd_of e1
    obtain ⟨p1, p2, p3⟩ := rd_of e2
    obtain ⟨s1, s2, s3⟩ := rd_of e3
    obtain ⟨t1, t2, t3⟩ := rd_of e5
    rw [q2, q3] at g6 ⊢
    rw [q1]
    rw [p2, p3] at g6
    rw [p1]
    rw [s1, s2, s3] at g6
    obtain ⟨y1, y2, y3⟩ := g6 rfl (by omega)
    subst y1; subst y2
    rw [t1, t2, t3] at g7
    obtain ⟨x1, x2, x3⟩ := g7 rfl (by omega)
    exact ⟨x1, by rw [y3, e4], by omega, by omega, by rw [x3, e6]⟩
  generalize rdN l 0 (!ok) = f at *
  generalize rdN l (rdA l 0 (!ok)) (rdB l 0 (!ok)) = t at *
  have hU : U.length ≤ 9223372036854775807 := by omega
  have hK : Kk.length ≤ 9223372036854775807 := by omega
  refine v_build (places := #[(0, 1), (1, 1), (2, 1), (3, 1)]) (cells := (tkC U f t Kk).toArray) Try.zeroValue42 Try.underlying42 (fun w => by kernel_rfl) (by rfl) ?_
  refine v_allocRec Try.zeroValue42 fun w8 z8 r8 m8 => ?_
  replace r8 : Rec w8 w7.heap.size 42 (tkC [] 0 0 []) := r8
  refine u_rec (cs := tkC [] 0 0 []) (cs' := tkC U f t Kk) Try.sizeOf42 rfl (by simp [Value.oneCell']) r8 fun w9 r9 m9 => ?_
  refine w_rec (cs := tkC U f t Kk) Try.isAgg42 Try.sizeOf42 r9 ?_
  have h7 := c7.size
  have hr7 := R7.rc.lt
  have c8 := Below.next c7 m8
  have c9 : Below w.heap.size w w9 := m9.below c8 (Nat.le_refl _) (by simp; omega)
  have d7 : Below w7.heap.size w7 w9 := m9.below m8 (Nat.le_refl _) (by simp)
  refine print_all hU hK fun w10 m10 => ?_
  have c10 := Below.next c9 m10
  have d10 : Below w7.heap.size w7 w10 := d7.trans (m10.mono d7.size)
  have rb := R7.rc.below d10
  have rr := r7.below d10
  have rt := r9.below m10
  have err : (∀ u f t k, mayT u f t k → tokS u f.toNat t.toNat k ≠ s) → RunV Try.prog (Instr.build 42 #[]) w10 fun x w' => RunU Try.prog (Instr.storeAt 42 (.pointer (some ⟨w.heap.size, 0, none⟩)) x) w' fun w' => RunW Try.prog (Instr.loadAt 42 (.pointer (some ⟨w.heap.size, 0, none⟩))) w' fun y => R (.tuple #[y, .int .i64 14]) w' := by
    intro hno
    refine v_build (places := #[(0, 1), (1, 1), (2, 1), (3, 1)]) (cells := (tkC [] 0 0 []).toArray) Try.zeroValue42 Try.underlying42 (fun w => by kernel_rfl) (by rfl) ?_
    refine u_rec (cs := tkC [] 0 0 []) (cs' := tkC [] 0 0 []) Try.sizeOf42 rfl (by simp [Value.oneCell']) rr fun w11 r11 m11 => ?_
    refine w_rec (cs := tkC [] 0 0 []) Try.isAgg42 Try.sizeOf42 r11 ?_
    exact h0 hno w11 (m11.below c10 (Nat.le_refl _) (by simp))
  refine a_ext0 (a_ext1 ?_)
  refine a_nil ?_
  refine a_field Try.underlying73 rfl Try.sizeOf4 (by decide) (w_recF (j := 0 + 2) Try.isAgg4 rb rfl ?_)
  refine ifb (fun hb => err fun u0 f0 t0 k0 hm hs => ?_) fun hb => ?_
  · have := (good u0 f0 t0 k0 hm hs).1
    rw [hb] at this
    cases this
  refine w_neq (ifd (fun hne => err fun u0 f0 t0 k0 hm hs => ?_) fun he => ?_)
  · obtain ⟨_, e1, e2, e3, e4⟩ := good u0 f0 t0 k0 hm hs
    subst e1; subst e2; subst e3; subst e4
    exact hne (by unfold prE; rw [if_pos hm])
  have hmay : mayT U f t Kk := by
    refine Classical.byContradiction fun hn => he ?_
    unfold prE; rw [if_neg hn]; decide
  have eS : prS U f t Kk = tokS U f t Kk := by unfold prS; rw [if_pos hmay]; simp
  rw [eS]
  refine w_neqL (ifd (fun hne => err fun u0 f0 t0 k0 hm hs => ?_) fun he2 => ?_)
  · obtain ⟨_, e1, e2, e3, e4⟩ := good u0 f0 t0 k0 hm hs
    subst e1; subst e2; subst e3; subst e4
    exact hne (by simpa using hs)
  refine w_rec (cs := tkC U f t Kk) Try.isAgg42 Try.sizeOf42 rt ?_
  refine u_rec (cs := tkC [] 0 0 []) (cs' := tkC U f t Kk) Try.sizeOf42 rfl (by simp [Value.oneCell']) rr fun w11 r11 m11 => ?_
  refine w_rec (cs := tkC U f t Kk) Try.isAgg42 Try.sizeOf42 r11 ?_
  exact h1 U f t Kk hmay (by simpa using Classical.not_not.1 he2) w11 (m11.below c10 (Nat.le_refl _) (by simp))

end Go.Proofs.Ytknbnfpdcbpoeaa
