/-
  FRAMES: two lists of records, one behind the other: the walk.
-/
import Derived.Test.YtknbnfpdcbpoeaaFrmH
namespace Go.Proofs.Ytknbnfpdcbpoeaa
open Go Go.Ez Go.RowKit
set_option linter.unusedSimpArgs false
set_option linter.unusedVariables false

theorem joins_spec {va vb : Value} {la lb : List (List UInt8)} {w : World} {R : Value → World → Prop} (ha : Ls w va la) (hb : Ls w vb lb)
    (h : ∀ w', Below w.heap.size w w' → R (.bool true) w') : CallF Try.prog 5 #[va, vb] w R := by
  refine sh5_calls ?_
  unfold sh5
  have ha' := ha
  have hb' := hb
  obtain ⟨avs, ha1, ha2⟩ := ha
  obtain ⟨bvs, hb1, hb2⟩ := hb
  refine first_spec fun w1 b1 => ?_
  refine a_not (iff' ?_)
  refine w_lenS Try.underlying28 ha1 ?_
  refine a_gtr (ifd (fun _ => first_spec fun w2 b2 => h w2 (Below.next b1 b2)) fun hc1 => ?_)
  refine w_lenS Try.underlying28 hb1 ?_
  refine a_gtr (ifd (fun _ => first_spec fun w2 b2 => h w2 (Below.next b1 b2)) fun hc2 => ?_)
  generalize hna : la.length = na at *
  generalize hnb : lb.length = nb at *
  refine lpx (α := Value × Value × Nat) (fun x => [x.1, x.2.1, nV .i64 x.2.2])
    (fun x W => x.2.2 ≤ na + nb ∧ Below w1.heap.size w1 W ∧ W.ownsRow w1.heap.size 5 1 x.1 (frs (la.take x.2.2)).length (bytesV (frs (la.take x.2.2))) ∧
      (∃ B, w1.heap.size ≤ B ∧ B ≤ W.heap.size ∧ (∀ k, x.1.ownBlock = some k → k < B) ∧ W.ownsRow B 5 1 x.2.1 (frs (lb.take (x.2.2 - na))).length (bytesV (frs (lb.take (x.2.2 - na))))) ∧
      (x.2.2 ≤ na → x.2.1 = .slice none 0 0) ∧ (∀ p ∈ la.take x.2.2, p.length ≤ 250) ∧ (∀ p ∈ lb.take (x.2.2 - na), p.length ≤ 250))
    (fun x => na + nb - x.2.2) (.slice none 0 0, .slice none 0 0, 0) (fun _ => rfl) rfl
    ⟨Nat.zero_le _, Below.refl _ _, own_nil, ⟨w1.heap.size, Nat.le_refl _, Nat.le_refl _, by simp [Value.ownBlock], by simp [frs]; exact own_nil⟩, fun _ => rfl, by simp, by simp⟩ ?_
  rintro next ⟨vx, vy, i⟩ W hnext ⟨i1, i2, i3, ⟨B, i4, i4', i4'', i5⟩, i6, i7, i8⟩
  dsimp only at i1 i2 i3 i4 i4' i4'' i5 i6 i7 i8 ⊢
  have bW := Below.next b1 i2
  have hxl : (frs (la.take i)).length ≤ 40 * 256 := by
    rw [frs_length]
    refine Nat.le_trans (sz_le (n := 250) i7) (Nat.mul_le_mul_right _ ?_)
    rw [List.length_take]
    omega
  have hyl : (frs (lb.take (i - na))).length ≤ 40 * 256 := by
    rw [frs_length]
    refine Nat.le_trans (sz_le (n := 250) i8) (Nat.mul_le_mul_right _ ?_)
    rw [List.length_take]
    omega
  refine app3 ?_
  refine w_lenS Try.underlying28 ha1 ?_
  refine w_lenS Try.underlying28 hb1 ?_
  refine a_add64 (by omega) (by omega) ?_
  refine a_lss (ifd (fun hc => ?_) fun hc => ?_)
  · refine jni (fun vs W' => ∃ vp lp, vs = [va, vb, vx, vy, nV .i64 i, vp] ∧ W' = W ∧ By W vp lp ∧ (i < na → la[i]? = some lp) ∧ (na ≤ i → lb[i - na]? = some lp)) ?_ ?_
    · rintro vs W' _ ⟨vp, lp, rfl, rfl, hp, p1, p2⟩
      refine app6 ?_
      refine w_lenS Try.underlying22 hp ?_
      refine a_gtr (ifd (fun _ => first_spec fun w2 b2 => h w2 (Below.next bW b2)) fun hc3 => ?_)
      refine fput_spec hp (by omega) (fun hx => by omega) fun _ f w2 f1 f2 => ?_
      refine a_ext0 (a_ext1 ?_)
      refine w_neq (ifd_neg (by decide) ?_)
      refine w_lenS Try.underlying22 (Sl.of_own f1) ?_
      refine w_lenS Try.underlying22 hp ?_
      refine a_add64 (by omega) (by omega) ?_
      refine w_neq (ifd_neg (by rw [fr_length]; omega) ?_)
      have c2 := i2.trans (f2.mono i2.size)
      refine jni (fun vs W3 => ∃ vx' vy', vs = [va, vb, vx', vy', nV .i64 i] ∧ Below w1.heap.size w1 W3 ∧ W3.ownsRow w1.heap.size 5 1 vx' (frs (la.take (i + 1))).length (bytesV (frs (la.take (i + 1)))) ∧
        (∃ B, w1.heap.size ≤ B ∧ B ≤ W3.heap.size ∧ (∀ k, vx'.ownBlock = some k → k < B) ∧ W3.ownsRow B 5 1 vy' (frs (lb.take (i + 1 - na))).length (bytesV (frs (lb.take (i + 1 - na))))) ∧
        (i + 1 ≤ na → vy' = .slice none 0 0) ∧ (∀ p ∈ la.take (i + 1), p.length ≤ 250) ∧ (∀ p ∈ lb.take (i + 1 - na), p.length ≤ 250)) ?_ ?_
      · rintro vs W3 _ ⟨vx', vy', rfl, j1, j2, j3, j4, j5, j6⟩
        refine app5 ?_
        refine a_add64 (by omega) (by omega) ⟨rfl, rfl, ?_⟩
        have e3 : ((i : Int) + 1) = ((i + 1 : Nat) : Int) := by push_cast; rfl
        rw [e3]
        exact hnext (vx', vy', i + 1) W3 (by dsimp only; omega) ⟨by dsimp only; omega, j1, j2, j3, j4, j5, j6⟩
      · refine w_lenS Try.underlying28 ha1 ?_
        have x1 := ownsRow_ext i3 f2
        have y1 := ownsRow_ext i5 f2
        refine a_lss (ifd (fun hc4 => ?_) fun hc4 => ?_)
        · have hin : i < na := by omega
          have hvy := i6 (by omega)
          subst hvy
          refine v_app elB x1 (Sl.of_own f1) (bytesV_one _) (by unfold maxLen; rw [fr_length]; omega) (by rw [fr_length]; omega) c2.size fun vx' W3 g1 g2 g3 => ?_
          have et : la.take (i + 1) = la.take i ++ [lp] := take_snoc (p1 hin)
          have ed : i + 1 - na = 0 := by omega
          refine ⟨vx', .slice none 0 0, rfl, c2.grown g2 c2.size (own_base x1), ?_, ⟨W3.heap.size, ?_, Nat.le_refl _, fun k hk => ?_, ?_⟩, fun _ => rfl, ?_, ?_⟩
          · rw [et, frs_snoc, bytesV_append, List.length_append]; exact g1
          · exact Nat.le_trans c2.size g2.size
          · rcases g1.2 with ⟨rfl, _⟩ | ⟨g, cap, cur, rfl, _, hg, _⟩
            · cases hk
            · cases hk; exact (Array.getElem?_eq_some_iff.1 hg).1
          · rw [ed, List.take_zero]; exact own_nil
          · intro q hq
            rw [et, List.mem_append, List.mem_singleton] at hq
            rcases hq with hq | rfl
            · exact i7 q hq
            · omega
          · rw [ed, List.take_zero]; simp
        · have hin : na ≤ i := by omega
          refine v_app elB y1 (Sl.of_own f1) (bytesV_one _) (by unfold maxLen; rw [fr_length]; omega) (by rw [fr_length]; omega) (Nat.le_trans i4' f2.size) fun vy' W3 g1 g2 g3 => ?_
          have ed : i + 1 - na = (i - na) + 1 := by omega
          have et : lb.take (i - na + 1) = lb.take (i - na) ++ [lp] := take_snoc (p2 hin)
          have ea : la.take (i + 1) = la.take i := by rw [List.take_of_length_le (by omega), List.take_of_length_le (by omega)]
          have mg := Mod.grow y1 g2
          have x2 := mg.own x1 (fun k hk hx => by have h1 := own_base y1 k (mem_ownBlock.1 hk); have h2 := i4'' k hx; omega)
          refine ⟨vx, vy', rfl, mg.below c2 (Nat.le_refl _) (fun k hk => by have h1 := own_base y1 k (mem_ownBlock.1 hk); omega), ?_, ⟨B, i4, Nat.le_trans i4' (Nat.le_trans f2.size g2.size), i4'', ?_⟩, fun hx => by omega, ?_, ?_⟩
          · rw [ea]; exact x2
          · rw [ed, et, frs_snoc, bytesV_append, List.length_append]; exact g1
          · rw [ea]; exact i7
          · rw [ed, et]
            intro q hq
            rw [List.mem_append, List.mem_singleton] at hq
            rcases hq with hq | rfl
            · exact i8 q hq
            · omega
    · refine w_lenS Try.underlying28 ha1 ?_
      refine a_lss (ifd (fun hc4 => ?_) fun hc4 => ?_)
      · have hin : i < la.length := by omega
        refine w_at elS Try.isAgg22 (ha1.below bW) (by omega) fun u hu => ?_
        have hli := List.getElem?_eq_getElem hin
        exact ⟨u, _, rfl, rfl, (ha2.2 i u _ hu hli).below bW, fun _ => hli, fun hx => by omega⟩
      · refine w_lenS Try.underlying28 ha1 ?_
        refine a_sub64 (by omega) (by omega) ?_
        have e3 : ((i : Int) - (na : Int)) = ((i - na : Nat) : Int) := by omega
        rw [e3]
        have hin : i - na < lb.length := by omega
        refine w_at elS Try.isAgg22 (hb1.below bW) (by omega) fun u hu => ?_
        have hli := List.getElem?_eq_getElem hin
        exact ⟨u, _, rfl, rfl, (hb2.2 (i - na) u _ hu hli).below bW, fun hx => by omega, fun _ => hli⟩
  · have hi : i = na + nb := by omega
    subst hi
    have ea : la.take (na + nb) = la := List.take_of_length_le (by omega)
    have eb : lb.take (na + nb - na) = lb := List.take_of_length_le (by omega)
    rw [ea] at i3 i7 hxl
    rw [eb] at i5 i8 hyl
    have h6a : ∀ p ∈ la, p.length ≤ 60000 := fun p hp => by have := i7 p hp; omega
    have h6b : ∀ p ∈ lb, p.length ≤ 60000 := fun p hp => by have := i8 p hp; omega
    have hX := Sl.of_own i3
    have hY := Sl.of_own i5
    refine copyBytes_spec hX (by omega) fun c w2 c1 c2 _ => ?_
    refine v_app elB c1 (hY.below c2) (bytesV_one _) (by unfold maxLen; omega) (by omega) c2.size fun d w3 d1 d2 _ => ?_
    rw [← bytesV_append, ← List.length_append] at d1
    have b3 : Below W.heap.size W w3 := c2.grown d2 c2.size (own_base c1)
    refine fall_spec (Sl.of_own d1) (by rw [List.length_append]; omega) fun l w4 us l1 l2 l3 => ?_
    have hrec : recs (frs la ++ frs lb) = la ++ lb := by
      have := recs_frs (r := []) h6b
      rw [List.append_nil, recs_nil, List.append_nil] at this
      rw [recs_frs h6a, this]
    rw [hrec] at l1 l2
    refine a_ext0 (a_ext1 ?_)
    have b4 := Below.next b3 l3
    refine copyBytes_spec (hX.below b4) (by omega) fun e w5 e1 e2 _ => ?_
    have b5 := Below.next b4 e2
    refine v_lit6 elB rfl rfl rfl rfl rfl rfl ?_
    have m6 : Below w5.heap.size w5 (w5.alloc (.cells #[.int .u8 255, .int .u8 255, .int .u8 0, .int .u8 0, .int .u8 0, .int .u8 0] 5)) := (Below.refl _ w5).alloc (Nat.le_refl _) _
    have o6 : By (w5.alloc (.cells #[.int .u8 255, .int .u8 255, .int .u8 0, .int .u8 0, .int .u8 0, .int .u8 0] 5)) (.slice (some ⟨w5.heap.size, 0, none⟩) 6 6) [255, 255, 0, 0, 0, 0] :=
      Sl.of_own (own_lit (base := 0) (cs := bytesV [255, 255, 0, 0, 0, 0]) (Nat.zero_le _) rfl (by unfold maxLen; omega))
    generalize w5.alloc (.cells #[.int .u8 255, .int .u8 255, .int .u8 0, .int .u8 0, .int .u8 0, .int .u8 0] 5) = w6 at *
    have e1' := ownsRow_ext e1 m6
    have b6 := Below.next b5 m6
    refine v_app elB e1' o6 (bytesV_one _) (by unfold maxLen; simp; omega) (by simp; omega) (Nat.le_trans e2.size m6.size) fun f w7 f1 f2 _ => ?_
    rw [← bytesV_append, ← List.length_append] at f1
    have b7 : Below W.heap.size W w7 := b6.grown f2 b6.size (fun k hk => by have := own_base e1' k hk; have := b4.size; omega)
    have z5 := e2.size
    have z6 := m6.size
    have z7 := f2.size
    have z4 := b4.size
    have zW := i2.size
    refine v_app elB f1 (hY.below b7) (bytesV_one _) (by unfold maxLen; simp; omega) (by simp; omega) (by omega) fun g w8 g1 g2 _ => ?_
    rw [← bytesV_append, ← List.length_append] at g1
    have b8 : Below W.heap.size W w8 := b7.grown g2 b7.size (fun k hk => by have := own_base f1 k hk; omega)
    refine fall_spec (Sl.of_own g1) (by rw [List.length_append, List.length_append]; simp; omega) fun m w9 ms m1 m2 m3 => ?_
    have hrec2 : recs (frs la ++ [255, 255, 0, 0, 0, 0] ++ frs lb) = la := by
      rw [List.append_assoc, recs_frs h6a, recs_none (nx_bad _), List.append_nil]
    rw [hrec2] at m1 m2
    refine a_ext0 (a_ext1 ?_)
    have b9 := Below.next b8 m3
    refine first_spec fun w10 b10' => ?_
    have b10 := Below.next b9 b10'
    refine ift' rfl ?_
    have hX10 := hX.below b10
    have hY10 := hY.below b10
    refine w_lenS Try.underlying22 hX10 ?_
    refine w_lenS Try.underlying22 hY10 ?_
    refine a_add64 (by omega) (by omega) ?_
    refine w_eql (ifd_pos (by rw [hrec, sz_append, frs_length, frs_length]; push_cast; rfl) ?_)
    -- the list that they are held against
    have w10a := b1.trans ((i2.trans (b10.mono i2.size)).mono b1.size)
    refine v_lit0 elS ?_
    have o11 := own_lit (w := w10) (base := w10.heap.size) (e := 22) (cs := []) (n := 0) (Nat.le_refl _) rfl (by unfold maxLen; omega)
    have m11 : Below w10.heap.size w10 (w10.alloc (.cells #[] 22)) := (Below.refl _ w10).alloc (Nat.le_refl _) _
    generalize w10.alloc (.cells #[] 22) = w11 at *
    have w11a := Below.next w10a m11
    have one : ∀ {vs : List Value} {ls : List (List UInt8)} {W : World}, Bs W vs ls → ∀ c ∈ vs, c.oneCell' = true := by
      intro vs ls W hbs c hc
      obtain ⟨i, hi, rfl⟩ := List.getElem_of_mem hc
      have h1 := List.getElem?_eq_getElem hi
      have h2 := List.getElem?_eq_getElem (l := ls) (i := i) (by rw [← hbs.1]; exact hi)
      exact one_slice (hbs.2 i _ _ h1 h2)
    refine v_app elS o11 (ha1.below w11a) (one ha2) (by unfold maxLen; omega) (by omega) m11.size fun x w12 x1 x2 _ => ?_
    have m12 := m11.grown x2 m11.size (own_base o11)
    have w12a := Below.next w10a m12
    refine v_app elS x1 (hb1.below w12a) (one hb2) (by unfold maxLen; omega) (by omega) m12.size fun y w13 y1 y2 _ => ?_
    have m13 := m12.grown y2 m12.size (own_base x1)
    have w13a := Below.next w10a m13
    rw [Nat.zero_add, List.nil_append] at y1
    have hbs : Bs w13 (avs ++ bvs) (la ++ lb) := by
      have k1 := ha2.below w13a
      have k2 := hb2.below w13a
      refine ⟨by rw [List.length_append, List.length_append, ha2.1, hb2.1], fun i v l h1 h2 => ?_⟩
      rcases Nat.lt_or_ge i avs.length with hi | hi
      · rw [List.getElem?_append_left hi] at h1
        rw [List.getElem?_append_left (by rw [← ha2.1]; exact hi)] at h2
        exact k1.2 i v l h1 h2
      · rw [List.getElem?_append_right hi] at h1
        rw [List.getElem?_append_right (by rw [← ha2.1]; exact hi), ← ha2.1] at h2
        exact k2.2 _ v l h1 h2
    have w4_13 : Below w4.heap.size w4 w13 := by
      have n1 : Below w4.heap.size w4 w9 := (((e2.trans (m6.mono e2.size)).grown f2 (by omega) (fun k hk => own_base e1' k hk)).grown g2 (by omega) (fun k hk => own_base f1 k hk)).trans (m3.mono (by have := g2.size; omega))
      exact n1.trans ((b10'.trans (m13.mono b10'.size)).mono n1.size)
    have w9_13 : Below w9.heap.size w9 w13 := b10'.trans (m13.mono b10'.size)
    refine lists_spec (ls := la ++ lb) (ms := la ++ lb) ((l2.bs.below w4_13).ls ((Sl.of_own l1).below w4_13)) (hbs.ls (by rw [List.length_append, hna, hnb]; exact Sl.of_own y1)) (by rw [List.length_append]; omega) fun w14 m14 => ?_
    rw [decide_eq_true rfl]
    refine ift' rfl ?_
    have w14a := Below.next w13a m14
    have w14w : Below W.heap.size W w14 := by
      exact b10.trans ((m13.trans (m14.mono m13.size)).mono b10.size)
    refine w_lenS Try.underlying22 (hX.below w14w) ?_
    refine w_eql (ifd_pos (by rw [hrec2, frs_length]) ?_)
    have w9_14 : Below w9.heap.size w9 w14 := w9_13.trans (m14.mono w9_13.size)
    refine lists_spec (ls := la) (ms := la) ((m2.bs.below w9_14).ls ((Sl.of_own m1).below w9_14)) (ha'.below w14a) (by omega) fun w15 m15 => ?_
    rw [decide_eq_true rfl]
    exact h w15 (Below.next w14a m15)

end Go.Proofs.Ytknbnfpdcbpoeaa
