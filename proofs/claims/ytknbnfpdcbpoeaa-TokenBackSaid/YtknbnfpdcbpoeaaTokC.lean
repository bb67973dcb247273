/-
  TOKENS: a token's text by the program: what each function answers; unlike tokens have unlike texts: the walk.
-/
import Derived.Test.YtknbnfpdcbpoeaaTokB
namespace Go.Proofs.Ytknbnfpdcbpoeaa
open Go Go.Ez Go.RowKit Go.Lib
set_option linter.unusedSimpArgs false
set_option linter.unusedVariables false

/-- token.number -/
theorem number_spec {v : Value} {l : List UInt8} {B n : Nat} {w : World} {R : Value → World → Prop} (hv : w.ownsRow B 5 1 v l.length (bytesV l)) (hB : B ≤ w.heap.size) (hn : n < 72057594037927936) (hl : l.length ≤ 100000000)
    (h : ∀ v' w', w'.ownsRow B 5 1 v' (l ++ varB n).length (bytesV (l ++ varB n)) → Below B w w' → w.heap.size ≤ w'.heap.size → R v' w') : CallF Try.prog 36 #[v, nV .i64 n] w R := by
  refine sh36_calls ?_
  unfold sh36
  have hl8 := varB_len8 hn
  refine var_spec (by omega) (fun hx => by omega) fun _ _ x w1 h1 h2 => ?_
  rw [Int.toNat_natCast] at h1
  refine a_ext0 (a_ext1 ?_)
  have hv1 := ownsRow_ext hv h2
  refine v_app elB hv1 (Sl.of_own h1) (bytesV_one _) (by unfold maxLen; omega) (by omega) (Nat.le_trans hB h2.size) fun v' w' g1 g2 _ => ?_
  rw [← bytesV_append, ← List.length_append] at g1
  exact h v' w' g1 ((h2.mono hB).trans ((Below.refl B w1).grown g2 (Nat.le_trans hB h2.size) (own_base hv1))) (Nat.le_trans h2.size g2.size)

/-- token.text -/
theorem text_spec {v : Value} {l s : List UInt8} {B : Nat} {w : World} {R : Value → World → Prop} (hv : w.ownsRow B 5 1 v l.length (bytesV l)) (hB : B ≤ w.heap.size) (hl : l.length ≤ 1000000) (hs : s.length ≤ 1000000)
    (h : ∀ v' w', w'.ownsRow B 5 1 v' (l ++ (varB s.length ++ s)).length (bytesV (l ++ (varB s.length ++ s))) → Below B w w' → w.heap.size ≤ w'.heap.size → R v' w') : CallF Try.prog 35 #[v, strV s] w R := by
  refine sh35_calls ?_
  unfold sh35
  have hl8 := varB_len8 (n := s.length) (by omega)
  refine w_lenL Try.underlying9 ?_
  refine number_spec hv hB (by omega) (by omega) fun x w1 h1 h2 h3 => ?_
  refine v_appS elB Try.underlying9 h1 (by unfold maxLen; rw [List.length_append]; omega) (by rw [List.length_append]; omega) (by omega) fun v' w' g1 g2 => ?_
  rw [← bytesV_append, ← List.length_append, List.append_assoc] at g1
  exact h v' w' g1 (h2.trans ((Below.refl B w1).grown g2 (by omega) (own_base h1))) (Nat.le_trans h3 g2.size)

/-- token.Print -/
theorem print_spec {u k : List UInt8} {f t : Int} {w : World} {R : Value → World → Prop} (hu : u.length ≤ 9223372036854775807) (hk : k.length ≤ 9223372036854775807)
    (h0 : ¬ mayT u f t k → ∀ w', Below w.heap.size w w' → R (.tuple #[strV [], .int .i64 4]) w')
    (h : mayT u f t k → ∀ w', Below w.heap.size w w' → R (.tuple #[strV (tokS u f.toNat t.toNat k), .int .i64 0]) w') :
    CallF Try.prog 20 #[tkV u f t k] w R := by
  refine sh20_calls ?_
  unfold sh20
  refine v_boxRec fun w1 z1 r1 m1 => ?_
  refine w_rec (cs := tkC u f t k) Try.isAgg42 Try.sizeOf42 r1 ?_
  refine may_spec hu hk fun w2 m2 => ?_
  have c2 := Below.next m1 m2
  refine a_not (ifnd (fun hc => h0 hc w2 c2) fun hm => ?_)
  obtain ⟨f1, f2, t1, t2, ul, kl⟩ := mayT_nat hm
  replace h := h hm
  obtain ⟨f, rfl⟩ := Int.eq_ofNat_of_zero_le f1
  obtain ⟨t, rfl⟩ := Int.eq_ofNat_of_zero_le t1
  simp only [Int.toNat_natCast] at h
  have r2 := r1.below m2
  have hlt := r2.lt
  have F : ∀ W, Below w2.heap.size w2 W → Rec W w.heap.size 42 (tkC u f t k) := fun W hW => (hW.block _ hlt).trans r2
  refine ⟨fun W => Below w2.heap.size w2 W, (Below.refl _ _).drew, ?_⟩
  refine a_field Try.underlying42 rfl Try.sizeOf3 (by decide) (s_recF (j := 0 + 1) Try.isAgg3 F rfl ?_)
  refine a_field Try.underlying42 rfl Try.sizeOf3 (by decide) (s_recF (j := 0 + 2) Try.isAgg3 F rfl ?_)
  refine a_field Try.underlying42 rfl Try.sizeOf9 (by decide) (s_recF (j := 0 + 0) Try.isAgg9 F rfl ?_)
  refine a_field Try.underlying42 rfl Try.sizeOf9 (by decide) (s_recF (j := 0 + 3) Try.isAgg9 F rfl ?_)
  have d0 : Below w2.heap.size w2 w2.drew := (Below.refl _ _).drew
  have hf8 := varB_len8 (n := f) (by omega)
  have ht8 := varB_len8 (n := t) (by omega)
  have hu8 := varB_len8 (n := u.length) (by omega)
  have hk8 := varB_len8 (n := k.length) (by omega)
  refine number_spec (l := []) (B := w2.heap.size) own_nil (Nat.le_refl _) (by omega) (by simp) fun v3 w3 o3 b3 s3 => ?_
  rw [List.nil_append] at o3
  have d3 := d0.trans b3
  refine ⟨d3, ?_⟩
  refine number_spec o3 d3.size (by omega) (by omega) fun v4 w4 o4 b4 s4 => ?_
  have d4 := d3.trans b4
  refine ⟨d4, ?_⟩
  refine text_spec o4 d4.size (by rw [List.length_append]; omega) (by omega) fun v5 w5 o5 b5 s5 => ?_
  have d5 := d4.trans b5
  refine ⟨d5, ?_⟩
  refine text_spec o5 d5.size (by simp only [List.length_append]; omega) (by omega) fun v6 w6 o6 b6 s6 => ?_
  have d6 := d5.trans b6
  have eb : varB f ++ varB t ++ (varB u.length ++ u) ++ (varB k.length ++ k) = tokB u f t k := rfl
  rw [eb] at o6
  have hbl : (tokB u f t k).length ≤ 200 := by
    rw [← eb]
    simp only [List.length_append]
    omega
  refine crc_spec (Sl.of_own o6) (by omega) ?_
  have hc32 := crc_lt (tokB u f t k)
  refine v_convN Try.underlying57 Try.underlying3 (by simp only [IntKind.max, IntKind.bits, IntKind.signed]; simp; omega) ?_
  refine put_spec (by omega) (fun hn => ?_) fun _ _ _ _ s w7 s1 s2 => ?_
  · simp at hn
    omega
  simp only [Int.toNat_natCast, show Int.toNat 4 = 4 from rfl] at s1
  refine a_ext0 (a_ext1 ?_)
  have o7 := ownsRow_ext o6 s2
  have d7 := d6.trans (s2.mono d6.size)
  refine v_app elB o7 (Sl.of_own s1) (bytesV_one _) (by unfold maxLen; omega) (by omega) d7.size fun x w8 x1 x2 _ => ?_
  have d8 := d7.grown x2 d7.size (own_base o7)
  have e4 : (tokB u f t k).length + 4 = (tokB u f t k ++ be (crc (tokB u f t k)) 4).length := by rw [List.length_append, be_length]
  rw [← bytesV_append, e4] at x1
  refine hex_spec (Sl.of_own x1) (by rw [← e4]; omega) fun w9 m9 => ?_
  exact h w9 (Below.next (Below.next c2 d8) m9)

/-- what Print answers: the text, the error -/
def prS (u : List UInt8) (f t : Int) (k : List UInt8) : List UInt8 := if mayT u f t k then tokS u f.toNat t.toNat k else []
def prE (u : List UInt8) (f t : Int) (k : List UInt8) : Int := if mayT u f t k then 0 else 4
theorem print_all {u k : List UInt8} {f t : Int} {w : World} {R : Value → World → Prop} (hu : u.length ≤ 9223372036854775807) (hk : k.length ≤ 9223372036854775807)
    (h : ∀ w', Below w.heap.size w w' → R (.tuple #[strV (prS u f t k), .int .i64 (prE u f t k)]) w') : CallF Try.prog 20 #[tkV u f t k] w R := by
  refine print_spec hu hk (fun hn w' hw => ?_) fun hm w' hw => ?_
  · have := h w' hw
    unfold prS prE at this
    rw [if_neg hn, if_neg hn] at this
    exact this
  · have := h w' hw
    unfold prS prE at this
    rw [if_pos hm, if_pos hm] at this
    exact this

/-- what a token's text begins with, in the chapter's examples -/
theorem tok_first : (tokS [117] 0 0 []).length = 18 ∧ (tokS [117] 0 0 []).take 10 = [48, 48, 48, 48, 48, 49, 55, 53, 48, 48] := by decide +kernel

end Go.Proofs.Ytknbnfpdcbpoeaa
