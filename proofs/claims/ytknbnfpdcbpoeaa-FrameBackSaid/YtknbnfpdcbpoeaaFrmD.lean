/-
  FRAMES: a record written, a record read: what each function answers.
-/
import Derived.Test.YtknbnfpdcbpoeaaFrmC
namespace Go.Proofs.Ytknbnfpdcbpoeaa
open Go Go.Ez Go.RowKit
set_option linter.unusedSimpArgs false
set_option linter.unusedVariables false

/-- frame.crc -/
theorem fcrc_spec {u v : Value} {l m : List UInt8} {w : World} {R : Value → World → Prop} (hu : By w u l) (hv : By w v m) (hl : l.length ≤ 70368744175616) (hm : m.length ≤ 70368744175616)
    (h : ∀ w', Below w.heap.size w w' → R (nV .u32 (crc (l ++ m))) w') : CallF Try.prog 28 #[u, v] w R := by
  refine sh28_calls ?_
  unfold sh28
  refine clone_spec hu (by omega) fun x w1 h1 h2 => ?_
  refine v_app elB h1 (hv.below h2) (bytesV_one m) (by unfold maxLen; omega) (by omega) h2.size fun y w2 g1 g2 g3 => ?_
  have g4 := Sl.of_own g1
  rw [← bytesV_append, ← List.length_append] at g4
  refine crc_spec g4 (by rw [List.length_append]; omega) ?_
  exact h w2 (h2.grown g2 h2.size (own_base h1))

/-- frame.Put -/
theorem fput_spec {v : Value} {l : List UInt8} {w : World} {R : Value → World → Prop} (hv : By w v l) (hl : l.length ≤ 70368744175616)
    (h0 : 60000 < l.length → R (.tuple #[.slice none 0 0, .int .i64 3]) w)
    (h : l.length ≤ 60000 → ∀ v' w', w'.ownsRow w.heap.size 5 1 v' (fr l).length (bytesV (fr l)) → Below w.heap.size w w' → R (.tuple #[v', .int .i64 0]) w') :
    CallF Try.prog 11 #[v] w R := by
  refine sh11_calls ?_
  unfold sh11
  refine w_lenS Try.underlying22 hv ?_
  refine a_gtr (ifd (fun hc => h0 (by omega)) fun hc => ?_)
  refine w_lenS Try.underlying22 hv ?_
  refine put_spec (by omega) (fun hn => ?_) fun _ _ _ _ n w1 n1 n2 => ?_
  · simp at hn
    omega
  simp only [Int.toNat_natCast, show Int.toNat 2 = 2 from rfl, show Int.toNat 4 = 4 from rfl] at n1
  refine a_ext0 (a_ext1 ?_)
  have n3 := Sl.of_own n1
  refine fcrc_spec (l := be l.length 2) (by unfold By; rw [be_length]; exact n3) (hv.below n2) (by rw [be_length]; decide) hl fun w2 h2 => ?_
  have hc32 := crc_lt (be l.length 2 ++ l)
  refine v_convN Try.underlying57 Try.underlying3 (by simp only [IntKind.max, IntKind.bits, IntKind.signed]; simp; omega) ?_
  refine put_spec (by omega) (fun hn => ?_) fun _ _ _ _ s w3 s1 s2 => ?_
  · simp at hn
    omega
  simp only [Int.toNat_natCast, show Int.toNat 2 = 2 from rfl, show Int.toNat 4 = 4 from rfl] at s1
  refine a_ext0 (a_ext1 ?_)
  have b3 := Below.next (Below.next n2 h2) s2
  have n4 := ownsRow_ext (ownsRow_ext n1 h2) s2
  refine v_app elB n4 (Sl.of_own s1) (bytesV_one _) (by unfold maxLen; decide) (by decide) b3.size fun y w4 y1 y2 y3 => ?_
  have b4 := b3.grown y2 b3.size (own_base n4)
  refine v_app elB y1 (hv.below b4) (bytesV_one l) (by unfold maxLen; omega) (by omega) b4.size fun z w5 z1 z2 z3 => ?_
  rw [← bytesV_append, ← bytesV_append] at z1
  have e : (fr l).length = 2 + 4 + l.length := by simp only [fr, List.length_append, be_length]
  exact h (by omega) z w5 (by rw [e]; exact z1) (b4.grown z2 b4.size (own_base y1))

/-- hblref8.Frame -/
theorem rput_spec {v : Value} {l : List UInt8} {w : World} {R : Value → World → Prop} (hv : By w v l) (hl : l.length ≤ 70368744175616)
    (h0 : 60000 < l.length → R (.tuple #[.slice none 0 0, .int .i64 3]) w)
    (h : l.length ≤ 60000 → ∀ v' w', w'.ownsRow w.heap.size 5 1 v' (fr l).length (bytesV (fr l)) → Below w.heap.size w w' → R (.tuple #[v', .int .i64 0]) w') :
    CallF Try.prog 12 #[v] w R := by
  refine sh12_calls ?_
  unfold sh12
  refine w_lenS Try.underlying22 hv ?_
  refine a_gtr (ifd (fun hc => h0 (by omega)) fun hc => ?_)
  refine w_lenS Try.underlying22 hv ?_
  refine put1_spec (by omega) (fun hn => ?_) fun _ _ _ _ n w1 n1 n2 => ?_
  · simp at hn
    omega
  simp only [Int.toNat_natCast, show Int.toNat 2 = 2 from rfl, show Int.toNat 4 = 4 from rfl] at n1
  refine a_ext0 (a_ext1 ?_)
  have n3 := Sl.of_own n1
  refine copyBytes_spec (l := be l.length 2) (by unfold By; rw [be_length]; exact n3) (by rw [be_length]; decide) fun x w2 h1 h2 _ => ?_
  refine v_app elB h1 ((hv.below n2).below h2) (bytesV_one l) (by unfold maxLen; rw [be_length]; omega) (by rw [be_length]; omega) h2.size fun y w3 g1 g2 _ => ?_
  have g4 := Sl.of_own g1
  rw [← bytesV_append, ← List.length_append] at g4
  refine crc1_spec g4 (by rw [List.length_append, be_length]; omega) ?_
  have h3 := h2.grown g2 h2.size (own_base h1)
  have hc32 := crc_lt (be l.length 2 ++ l)
  refine v_convN Try.underlying57 Try.underlying3 (by simp only [IntKind.max, IntKind.bits, IntKind.signed]; simp; omega) ?_
  refine put1_spec (by omega) (fun hn => ?_) fun _ _ _ _ s w3 s1 s2 => ?_
  · simp at hn
    omega
  simp only [Int.toNat_natCast, show Int.toNat 2 = 2 from rfl, show Int.toNat 4 = 4 from rfl] at s1
  refine a_ext0 (a_ext1 ?_)
  have b3 := Below.next (Below.next n2 h3) s2
  have n4 := ownsRow_ext (ownsRow_ext n1 h3) s2
  refine v_app elB n4 (Sl.of_own s1) (bytesV_one _) (by unfold maxLen; decide) (by decide) b3.size fun y w4 y1 y2 y3 => ?_
  have b4 := b3.grown y2 b3.size (own_base n4)
  refine v_app elB y1 (hv.below b4) (bytesV_one l) (by unfold maxLen; omega) (by omega) b4.size fun z w5 z1 z2 z3 => ?_
  rw [← bytesV_append, ← bytesV_append] at z1
  have e : (fr l).length = 2 + 4 + l.length := by simp only [fr, List.length_append, be_length]
  exact h (by omega) z w5 (by rw [e]; exact z1) (b4.grown z2 b4.size (own_base y1))

/-- frame.next -/
theorem next_spec {v : Value} {l : List UInt8} {w : World} {a : Nat} {R : Value → World → Prop} (hv : By w v l) (hl : l.length ≤ 70368744175616) (ha : a ≤ l.length)
    (h : ∀ v' w', (∀ p, nx (l.drop a) = some p → By w' v' p) → Below w.heap.size w w' → R (.tuple #[v', .bool (nx (l.drop a)).isSome]) w') :
    CallF Try.prog 33 #[v, nV .i64 a] w R := by
  refine sh33_calls ?_
  unfold sh33
  refine get_spec (width := (2 : Nat)) hv (by omega) (by omega) ?_
  refine a_ext0 (a_ext1 ?_)
  have hdl : (l.drop a).length = l.length - a := List.length_drop ..
  have none_of : nx (l.drop a) = none → R (.tuple #[.slice none 0 0, .bool false]) w := fun hn => by
    have := h (.slice none 0 0) w (fun p hp => by rw [hn] at hp; cases hp) (Below.refl _ _)
    rw [hn] at this; exact this
  refine w_neq (ifd (fun hc => none_of ?_) fun hc => ?_)
  · unfold nx
    by_cases h2 : (l.drop a).length < 2
    · rw [if_pos h2]
    · rw [getR_in (by decide) (by decide) (by omega)] at hc
      exact absurd rfl hc
  have h2 : a + 2 ≤ l.length := by
    refine Nat.le_of_not_lt fun hlt => ?_
    have := getR_out (l := l) (a := a) (m := 2) hlt (by decide)
    exact this (by omega)
  rw [getR_in (by decide) (by decide) h2]
  dsimp only
  generalize hn : getB ((l.drop a).take 2) = n at *
  refine a_gtr (ifd (fun hc => none_of ?_) fun hc2 => ?_)
  · unfold nx; rw [if_neg (by omega), hn, if_pos (by omega)]
  refine w_lenS Try.underlying22 hv ?_
  refine a_sub64 (by omega) (by omega) ?_
  refine a_sub64 (by omega) (by omega) ?_
  refine a_lss (ifd (fun hc => none_of ?_) fun hc3 => ?_)
  · unfold nx; rw [if_neg (by omega), hn, if_neg (by omega), if_pos (by omega)]
  refine a_add64 (by omega) (by omega) ?_
  have e1 : ((a : Int) + 2) = ((a + 2 : Nat) : Int) := by push_cast; rfl
  rw [e1]
  refine get_spec (width := (4 : Nat)) hv (by omega) (by omega) ?_
  refine a_ext0 (a_ext1 ?_)
  rw [getR_in (by decide) (by decide) (by omega)]
  dsimp only
  have hdd : l.drop (a + 2) = (l.drop a).drop 2 := by rw [List.drop_drop]
  have hs := getB_lt (((l.drop a).drop 2).take 4)
  have hsl : (((l.drop a).drop 2).take 4).length = 4 := by rw [List.length_take, List.length_drop]; omega
  rw [hsl] at hs
  have hs' := hs
  rw [← hdd] at hs'
  refine a_add64 (by omega) (by omega) ?_
  refine a_add64 (by omega) (by omega) ?_
  refine a_add64 (by omega) (by omega) ?_
  have e2 : ((a : Int) + 6) = ((a + 6 : Nat) : Int) := by push_cast; rfl
  have e3 : ((a : Int) + 6 + (n : Int)) = ((a + 6 + n : Nat) : Int) := by push_cast; rfl
  rw [e3, e2]
  refine a_part elB hv (by omega) (by omega) fun p hp => ?_
  have e4 : a + 6 + n - (a + 6) = n := by omega
  have e5 : l.drop (a + 6) = (l.drop a).drop 6 := by rw [List.drop_drop]
  rw [e4, e5] at hp
  refine v_convN Try.underlying3 Try.underlying57 (by simp only [IntKind.max, IntKind.bits, IntKind.signed]; simp; omega) ?_
  refine a_add64 (by omega) (by omega) ?_
  rw [e1]
  refine a_part elB hv (by omega) (by omega) fun q hq => ?_
  have e6 : a + 2 - a = 2 := by omega
  rw [e6] at hq
  refine fcrc_spec hq hp (by rw [List.length_take]; omega) (by rw [List.length_take]; omega) fun w1 h1 => ?_
  rw [hdd]
  refine w_eql ?_
  have hnx : nx (l.drop a) = if getB (((l.drop a).drop 2).take 4) = crc ((l.drop a).take 2 ++ ((l.drop a).drop 6).take n) then some (((l.drop a).drop 6).take n) else none := by
    unfold nx; rw [if_neg (by omega), hn, if_neg (by omega), if_neg (by omega)]
  have hb : decide (((getB (((l.drop a).drop 2).take 4) : Nat) : Int) = ((crc ((l.drop a).take 2 ++ ((l.drop a).drop 6).take n) : Nat) : Int)) = (nx (l.drop a)).isSome := by
    rw [hnx]
    split
    · rename_i hx; rw [hx]; simp
    · rename_i hx
      simp only [Option.isSome_none, decide_eq_false_iff_not]
      exact fun he => hx (by exact_mod_cast he)
  rw [hb]
  refine h p w1 (fun p' hp' => ?_) h1
  rw [hnx] at hp'
  split at hp'
  · cases hp'; exact hp.below h1
  · cases hp'

end Go.Proofs.Ytknbnfpdcbpoeaa
