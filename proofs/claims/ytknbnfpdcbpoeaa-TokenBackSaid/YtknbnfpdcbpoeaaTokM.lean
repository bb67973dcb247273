/-
  TOKENS: a text read by the document: what it answers.
-/
import Derived.Test.YtknbnfpdcbpoeaaTokL
namespace Go.Proofs.Ytknbnfpdcbpoeaa
open Go Go.Ez Go.RowKit Go.Lib
set_option linter.unusedSimpArgs false
set_option linter.unusedVariables false

theorem unhex1_all {s : List UInt8} {w : World} {R : Value → World → Prop} (hl : s.length ≤ 1000000000)
    (h : ∀ ok l v' w', w'.ownsRow w.heap.size 5 1 v' l.length (bytesV l) → Below w.heap.size w w' → l.length ≤ s.length → (∀ m, s = hexL m → ok = true ∧ l = m) → R (.tuple #[v', .bool ok]) w') : CallF Try.prog 45 #[strV s] w R := by
  refine unhex1_spec (by omega) (fun hn w' hw => h false [] _ w' own_nil hw (by simp) fun m hm => absurd hm (hn m)) fun m hm v' w' ho hw => h true m v' w' ho hw (by rw [hm, hexL_length]; omega) fun m' hm' => ⟨rfl, hexL_inj (hm.symm.trans hm')⟩

/-- hblref20.ParseToken -/
theorem rparse_spec {s : List UInt8} {w : World} {R : Value → World → Prop} (hl : s.length ≤ 1000000000)
    (h1 : ∀ u f t k, mayT u f t k → tokS u f.toNat t.toNat k = s → ∀ w', Below w.heap.size w w' → R (.tuple #[tkV u f t k, .int .i64 0]) w')
    (h0 : (∀ u f t k, mayT u f t k → tokS u f.toNat t.toNat k ≠ s) → ∀ w', Below w.heap.size w w' → R (.tuple #[tkV [] 0 0 [], .int .i64 14]) w') : CallF Try.prog 25 #[strV s] w R := by
  refine sh25_calls ?_
  unfold sh25
  refine v_allocRec Try.zeroValue46 fun w1 z1 r1 m1 => ?_
  replace r1 : Rec w1 w.heap.size 46 (tkC [] 0 0 []) := r1
  refine unhex1_all hl fun ok l vb w2 o2 m2 l2 hex2 => ?_
  have c2 := Below.next m1 m2
  have r2 := r1.below m2
  have hv := Sl.of_own o2
  have hv' : By w2 vb l := hv
  have err : ∀ w9, Below w2.heap.size w2 w9 → (∀ u f t k, mayT u f t k → tokS u f.toNat t.toNat k ≠ s) → RunV Try.prog (Instr.build 46 #[]) w9 fun x w' => RunU Try.prog (Instr.storeAt 46 (.pointer (some ⟨w.heap.size, 0, none⟩)) x) w' fun w' => RunW Try.prog (Instr.loadAt 46 (.pointer (some ⟨w.heap.size, 0, none⟩))) w' fun y => R (.tuple #[y, .int .i64 14]) w' := by
    intro w9 m9 hno
    refine v_build (places := #[(0, 1), (1, 1), (2, 1), (3, 1)]) (cells := (tkC [] 0 0 []).toArray) Try.zeroValue46 Try.underlying46 (fun w => by kernel_rfl) (by rfl) ?_
    refine u_rec (cs := tkC [] 0 0 []) (cs' := tkC [] 0 0 []) Try.sizeOf46 rfl (by simp [Value.oneCell']) (r2.below m9) fun w11 r11 m11 => ?_
    refine w_rec (cs := tkC [] 0 0 []) Try.isAgg46 Try.sizeOf46 r11 ?_
    exact h0 hno w11 (m11.below (Below.next c2 m9) (Nat.le_refl _) (by simp))
  have b1 := rvR_bound (l := l) (a := 0) (Nat.zero_le _)
  have b2 := rvR_bound b1.2.2
  have b3 := rvR_bound b2.2.2
  have good : ∀ u f t k, mayT u f t k → tokS u f.toNat t.toNat k = s → ok = true ∧ 4 ≤ l.length ∧ (rvR l (0 : Nat)).2.2 = 0 ∧ (rvR l (rvR l (0 : Nat)).2.1).2.2 = 0 ∧ (rvR l (rvR l (rvR l (0 : Nat)).2.1).2.1).2.2 = 0 ∧
      (rvR l (rvR l (rvR l (0 : Nat)).2.1).2.1).2.1 + (rvR l (rvR l (rvR l (0 : Nat)).2.1).2.1).1 ≤ l.length ∧
      (rvR l ((rvR l (rvR l (rvR l (0 : Nat)).2.1).2.1).2.1 + (rvR l (rvR l (rvR l (0 : Nat)).2.1).2.1).1 : Nat)).2.2 = 0 ∧
      (rvR l ((rvR l (rvR l (rvR l (0 : Nat)).2.1).2.1).2.1 + (rvR l (rvR l (rvR l (0 : Nat)).2.1).2.1).1 : Nat)).2.1 + (rvR l ((rvR l (rvR l (rvR l (0 : Nat)).2.1).2.1).2.1 + (rvR l (rvR l (rvR l (0 : Nat)).2.1).2.1).1 : Nat)).1 ≤ l.length ∧
      (l.drop (rvR l (rvR l (rvR l (0 : Nat)).2.1).2.1).2.1).take (rvR l (rvR l (rvR l (0 : Nat)).2.1).2.1).1 = u ∧ (rvR l (0 : Nat)).1 = f.toNat ∧ (rvR l (rvR l (0 : Nat)).2.1).1 = t.toNat ∧
      (l.drop (rvR l ((rvR l (rvR l (rvR l (0 : Nat)).2.1).2.1).2.1 + (rvR l (rvR l (rvR l (0 : Nat)).2.1).2.1).1 : Nat)).2.1).take (rvR l ((rvR l (rvR l (rvR l (0 : Nat)).2.1).2.1).2.1 + (rvR l (rvR l (rvR l (0 : Nat)).2.1).2.1).1 : Nat)).1 = k := by
    intro u f t k hm hs
    obtain ⟨rfl, rfl⟩ := hex2 _ hs.symm
    have mn := mayT_nat hm
    have h4 : 4 ≤ (tokB u f.toNat t.toNat k ++ be (crc (tokB u f.toNat t.toNat k)) 4).length := by rw [List.length_append, be_length]; omega
    obtain ⟨e1, e2, e3, e4, e5, e6, e7⟩ := read_back (u := u) (k := k) (f := f.toNat) (t := t.toNat) (r := be (crc (tokB u f.toNat t.toNat k)) 4) (by omega) (by omega) (by omega) (by omega)
    generalize tokB u f.toNat t.toNat k ++ be (crc (tokB u f.toNat t.toNat k)) 4 = l at *
    rw [e1]
    dsimp only
    rw [e2]
    dsimp only
    rw [e3]
    dsimp only
    rw [e5]
    exact ⟨rfl, h4, rfl, rfl, rfl, by omega, rfl, e7, e4, rfl, rfl, e6⟩
  refine a_ext0 (a_ext1 ?_)
  refine a_not (ifnb (fun hok => err w2 (Below.refl _ _) fun u f t k hm hs => ?_) fun hok => ?_)
  · have := (good u f t k hm hs).1
    rw [hok] at this; cases this
  refine w_lenS Try.underlying22 hv ?_
  refine a_lss (ifd (fun hc => err w2 (Below.refl _ _) fun u f t k hm hs => by have := (good u f t k hm hs).2.1; omega) fun hc0 => ?_)
  refine readVar1_spec (a := (0 : Nat)) hv' (by omega) ?_
  generalize hx1 : rvR l ((0 : Nat) : Int) = x1 at *
  refine a_ext0 (a_ext1 (a_ext2 ?_))
  refine readVar1_spec hv' (by omega) ?_
  generalize hx2 : rvR l (x1.2.1 : Int) = x2 at *
  refine a_ext0 (a_ext1 (a_ext2 ?_))
  refine readVar1_spec hv' (by omega) ?_
  generalize hx3 : rvR l (x2.2.1 : Int) = x3 at *
  refine a_ext0 (a_ext1 (a_ext2 ?_))
  refine w_neq (ifd (fun hc => err w2 (Below.refl _ _) fun u f t k hm hs => by have := good u f t k hm hs; omega) fun hc1 => ?_)
  refine w_neq (ifd (fun hc => err w2 (Below.refl _ _) fun u f t k hm hs => by have := good u f t k hm hs; omega) fun hc2 => ?_)
  refine w_neq (ifd (fun hc => err w2 (Below.refl _ _) fun u f t k hm hs => by have := good u f t k hm hs; omega) fun hc3 => ?_)
  refine w_lenS Try.underlying22 hv ?_
  refine a_sub64 (by omega) (by omega) ?_
  refine a_gtr (ifd (fun hc => err w2 (Below.refl _ _) fun u f t k hm hs => by have := good u f t k hm hs; omega) fun hc4 => ?_)
  refine a_add64 (by omega) (by omega) ?_
  have e1 : ((x3.2.1 : Int) + (x3.1 : Int)) = ((x3.2.1 + x3.1 : Nat) : Int) := by push_cast; rfl
  rw [e1]
  refine a_part elB hv' (by omega) (by omega) fun p hp => ?_
  have e2 : x3.2.1 + x3.1 - x3.2.1 = x3.1 := by omega
  rw [e2] at hp
  refine v_str Try.underlying22 Try.underlying5 Try.underlying9 hp ?_
  refine a_add64 (by omega) (by omega) ?_
  rw [e1]
  have b4 := rvR_bound (l := l) (a := x3.2.1 + x3.1) (by omega)
  refine readVar1_spec hv' (by omega) ?_
  generalize hx4 : rvR l ((x3.2.1 + x3.1 : Nat) : Int) = x4 at *
  refine a_ext0 (a_ext1 (a_ext2 ?_))
  refine w_neq (ifd (fun hc => err w2 (Below.refl _ _) fun u f t k hm hs => by have := good u f t k hm hs; omega) fun hc5 => ?_)
  refine w_lenS Try.underlying22 hv ?_
  refine a_sub64 (by omega) (by omega) ?_
  refine a_gtr (ifd (fun hc => err w2 (Below.refl _ _) fun u f t k hm hs => by have := good u f t k hm hs; omega) fun hc6 => ?_)
  refine a_add64 (by omega) (by omega) ?_
  have e3 : ((x4.2.1 : Int) + (x4.1 : Int)) = ((x4.2.1 + x4.1 : Nat) : Int) := by push_cast; rfl
  rw [e3]
  refine a_part elB hv' (by omega) (by omega) fun q hq => ?_
  have e4 : x4.2.1 + x4.1 - x4.2.1 = x4.1 := by omega
  rw [e4] at hq
  refine v_str Try.underlying22 Try.underlying5 Try.underlying9 hq ?_
  have hUl : ((l.drop x3.2.1).take x3.1).length ≤ l.length := by rw [List.length_take, List.length_drop]; omega
  have hKl : ((l.drop x4.2.1).take x4.1).length ≤ l.length := by rw [List.length_take, List.length_drop]; omega
  generalize (l.drop x3.2.1).take x3.1 = U at *
  generalize (l.drop x4.2.1).take x4.1 = Kk at *
  have hU : U.length ≤ 9223372036854775807 := by omega
  have hK : Kk.length ≤ 9223372036854775807 := by omega
  refine v_build (places := #[(0, 1), (1, 1), (2, 1), (3, 1)]) (cells := (tkC U x1.1 x2.1 Kk).toArray) Try.zeroValue46 Try.underlying46 (fun w => by kernel_rfl) (by rfl) ?_
  refine v_allocRec Try.zeroValue46 fun w8 z8 r8 m8 => ?_
  replace r8 : Rec w8 w2.heap.size 46 (tkC [] 0 0 []) := r8
  refine u_rec (cs := tkC [] 0 0 []) (cs' := tkC U x1.1 x2.1 Kk) Try.sizeOf46 rfl (by simp [Value.oneCell']) r8 fun w9 r9 m9 => ?_
  refine w_rec (cs := tkC U x1.1 x2.1 Kk) Try.isAgg46 Try.sizeOf46 r9 ?_
  have d9 : Below w2.heap.size w2 w9 := m9.below m8 (Nat.le_refl _) (by simp)
  refine rprint_all hU hK fun w10 m10 => ?_
  have d10 := d9.trans (m10.mono d9.size)
  have c10 := Below.next c2 d10
  refine a_ext0 (a_ext1 ?_)
  refine w_neq (ifd (fun hne => err w10 d10 fun u0 f0 t0 k0 hm hs => ?_) fun he => ?_)
  · obtain ⟨_, _, _, _, _, _, _, _, g1, g2, g3, g4⟩ := good u0 f0 t0 k0 hm hs
    have mn := mayT_nat hm
    refine hne ?_
    have ef : ((x1.1 : Nat) : Int) = f0 := by omega
    have et : ((x2.1 : Nat) : Int) = t0 := by omega
    unfold prE
    rw [g1, g4, ef, et, if_pos hm]
  have hmay : mayT U x1.1 x2.1 Kk := by
    refine Classical.byContradiction fun hn => he ?_
    unfold prE; rw [if_neg hn]; decide
  have eS : prS U x1.1 x2.1 Kk = tokS U x1.1 x2.1 Kk := by unfold prS; rw [if_pos hmay]; simp
  rw [eS]
  refine w_neqL (ifd (fun hne => err w10 d10 fun u0 f0 t0 k0 hm hs => ?_) fun he2 => ?_)
  · obtain ⟨_, _, _, _, _, _, _, _, g1, g2, g3, g4⟩ := good u0 f0 t0 k0 hm hs
    exact hne (by rw [g1, g2, g3, g4]; exact hs)
  refine w_rec (cs := tkC U x1.1 x2.1 Kk) Try.isAgg46 Try.sizeOf46 (r9.below m10) ?_
  refine u_rec (cs := tkC [] 0 0 []) (cs' := tkC U x1.1 x2.1 Kk) Try.sizeOf46 rfl (by simp [Value.oneCell']) (r2.below d10) fun w11 r11 m11 => ?_
  refine w_rec (cs := tkC U x1.1 x2.1 Kk) Try.isAgg46 Try.sizeOf46 r11 ?_
  exact h1 U x1.1 x2.1 Kk hmay (by simpa using Classical.not_not.1 he2) w11 (m11.below c10 (Nat.le_refl _) (by simp))

end Go.Proofs.Ytknbnfpdcbpoeaa
