/-
  FRAMES: records there and back, cut off, one byte turned: the walk.
-/
import Derived.Test.YtknbnfpdcbpoeaaFrmH
import Derived.Test.YtknbnfpdcbpoeaaFrmQ
namespace Go.Proofs.Ytknbnfpdcbpoeaa
open Go Go.Ez Go.RowKit
set_option linter.unusedSimpArgs false
set_option linter.unusedVariables false

/-- the places behind records, as they stand in a list -/
theorem pos_at {pre : List (List UInt8)} {i : Nat} (hi : i < pre.length) {u : Value} (hu : (posV pre)[i]? = some u) : u = nV .i64 (sz (pre.take (i + 1))) := by
  unfold posV at hu
  rw [List.getElem?_map, List.getElem?_range hi] at hu
  simp only [Option.map_some, Option.some.injEq] at hu
  exact hu.symm

theorem back_spec {va : Value} {la : List (List UInt8)} {cut at_ : Int} {x : Nat} {w : World} {R : Value → World → Prop} (ha : Ls w va la) (hcut : cut ≤ 9223372036854775807) (hat : at_ ≤ 9223372036854775807) (hx : x < 256)
    (h : ∀ w', Below w.heap.size w w' → R (.bool true) w') : CallF Try.prog 4 #[va, .int .i64 cut, .int .i64 at_, nV .u8 x] w R := by
  refine sh4_calls ?_
  unfold sh4
  have ha' := ha
  obtain ⟨avs, ha1, ha2⟩ := ha
  refine first_spec fun w1 b1 => ?_
  refine a_not (iff' ?_)
  refine w_lenS Try.underlying28 ha1 ?_
  refine a_gtr (ifd (fun _ => first_spec fun w2 b2 => h w2 (Below.next b1 b2)) fun hc1 => ?_)
  refine a_lss (ifd (fun _ => first_spec fun w2 b2 => h w2 (Below.next b1 b2)) fun hc2 => ?_)
  refine a_lss (ifd (fun _ => first_spec fun w2 b2 => h w2 (Below.next b1 b2)) fun hc3 => ?_)
  obtain ⟨cut, rfl⟩ := Int.eq_ofNat_of_zero_le (Int.not_lt.1 hc2)
  obtain ⟨at_, rfl⟩ := Int.eq_ofNat_of_zero_le (Int.not_lt.1 hc3)
  generalize hna : la.length = na at *
  refine lpx (α := Value × Value × Nat) (fun x => [x.1, x.2.1, nV .i64 x.2.2])
    (fun x W => x.2.2 ≤ na ∧ Below w1.heap.size w1 W ∧ W.ownsRow w1.heap.size 5 1 x.1 (frs (la.take x.2.2)).length (bytesV (frs (la.take x.2.2))) ∧
      W.ownsRow w1.heap.size 3 1 x.2.1 x.2.2 (posV (la.take x.2.2)) ∧ (∀ p ∈ la.take x.2.2, p.length ≤ 500))
    (fun x => na - x.2.2) (.slice none 0 0, .slice none 0 0, 0) (fun _ => rfl) rfl
    ⟨Nat.zero_le _, Below.refl _ _, own_nil, own_nil, by simp⟩ ?_
  rintro next ⟨vx, vy, i⟩ W hnext ⟨i1, i2, i3, i5, i7⟩
  dsimp only at i1 i2 i3 i5 i7 ⊢
  have bW := Below.next b1 i2
  have hxl : (frs (la.take i)).length ≤ 40 * 506 := by
    rw [frs_length]
    refine Nat.le_trans (sz_le (n := 500) i7) (Nat.mul_le_mul_right _ ?_)
    rw [List.length_take]
    omega
  refine app3 ?_
  refine w_lenS Try.underlying28 ha1 ?_
  refine a_lss (ifd (fun hc => ?_) fun hc => ?_)
  · have hin : i < la.length := by omega
    have hli := List.getElem?_eq_getElem hin
    refine w_at elS Try.isAgg22 (ha1.below bW) (by omega) fun u hu => ?_
    have hp := (ha2.2 i u _ hu hli).below bW
    generalize la[i] = lp at *
    refine w_lenS Try.underlying22 hp ?_
    refine a_gtr (ifd (fun _ => first_spec fun w2 b2 => h w2 (Below.next bW b2)) fun hc4 => ?_)
    refine w_at elS Try.isAgg22 (ha1.below bW) (by omega) fun u' hu' => ?_
    rw [hu] at hu'
    cases hu'
    refine fput_spec hp (by omega) (fun hx => by omega) fun _ f w2 f1 f2 => ?_
    refine a_ext0 (a_ext1 ?_)
    refine w_neq (ifd_neg (by decide) ?_)
    have c2 := i2.trans (f2.mono i2.size)
    have x1 := ownsRow_ext i3 f2
    have y1 := ownsRow_ext i5 f2
    have et : la.take (i + 1) = la.take i ++ [lp] := take_snoc hli
    refine v_app elB x1 (Sl.of_own f1) (bytesV_one _) (by unfold maxLen; rw [fr_length]; omega) (by rw [fr_length]; omega) c2.size fun vx' W3 g1 g2 g3 => ?_
    have eX : (frs (la.take i)).length + (fr lp).length = (frs (la.take (i + 1))).length := by rw [et, frs_snoc, List.length_append]
    rw [← bytesV_append, ← frs_snoc, ← et, eX] at g1
    have mg := Mod.grow x1 g2
    have y3 := mg.own y1 (fun k hk => own_notOwn y1 x1 (by decide) (mem_ownBlock.1 hk))
    have c3 := c2.grown g2 c2.size (own_base x1)
    have eP : (posV (la.take i)).length = i := by rw [posV_length, List.length_take]; omega
    refine w_lenS Try.underlying22 (Sl.of_own g1) ?_
    refine v_push elI y3 rfl (by unfold maxLen; omega) (by omega) c3.size fun vy' W4 k1 k2 _ => ?_
    have mk := Mod.grow y3 k2
    have x4 := mk.own g1 (fun k hk => own_notOwn g1 y3 (by decide) (mem_ownBlock.1 hk))
    have c4 := c3.grown k2 c3.size (own_base y3)
    have eS : (frs (la.take (i + 1))).length = sz (la.take (i + 1)) := frs_length _
    have eV : posV (la.take (i + 1)) = posV (la.take i) ++ [nV .i64 (frs (la.take (i + 1))).length] := by rw [eS, et, posV_snoc]
    refine a_add64 (by omega) (by omega) ⟨rfl, rfl, rfl, rfl, ?_⟩
    have e3 : ((i : Int) + 1) = ((i + 1 : Nat) : Int) := by push_cast; rfl
    rw [e3]
    refine hnext (vx', vy', i + 1) W4 (by dsimp only; omega) ⟨by dsimp only; omega, c4, x4, ?_, ?_⟩
    · dsimp only; rw [eV]; exact k1
    · dsimp only
      rw [et]
      intro q hq
      rw [List.mem_append, List.mem_singleton] at hq
      rcases hq with hq | rfl
      · exact i7 q hq
      · omega
  · have hi : i = na := by omega
    subst hi
    have ea : la.take i = la := List.take_of_length_le (by omega)
    rw [ea] at i3 i5 i7 hxl
    have h6a : ∀ p ∈ la, p.length ≤ 60000 := fun p hp => by have := i7 p hp; omega
    have hX := Sl.of_own i3
    have hY := Sl.of_own i5
    have hszl : (frs la).length = sz la := frs_length la
    have hposl : (posV la).length = i := by rw [posV_length, hna]
    have hrec : recs (frs la) = la := by
      have := recs_frs (r := []) h6a
      rwa [List.append_nil, recs_nil, List.append_nil] at this
    have hX' : By W vx (frs la) := hX
    refine fall_spec hX' (by omega) fun l w2 us l1 l2 l3 => ?_
    rw [hrec] at l1 l2
    refine a_ext0 (a_ext1 ?_)
    refine w_lenS Try.underlying22 hX ?_
    refine w_neq (ifd_neg (by rw [hrec]; omega) ?_)
    refine lists_spec (ls := la) (ms := la) (l2.bs.ls (Sl.of_own l1)) (ha'.below (Below.next bW l3)) (by omega) fun w3 m3 => ?_
    rw [decide_eq_true rfl]
    refine a_not (iff' ?_)
    have d3 := Below.next l3 m3
    have hX3 := hX'.below d3
    refine w_lenS Try.underlying22 hX ?_
    refine a_add64 (by omega) (by omega) ?_
    refine a_rem64 (by omega) (by omega) ?_
    have ek : (cut : Int) % (((frs la).length : Nat) + 1 : Int) = ((cut % ((frs la).length + 1) : Nat) : Int) := by push_cast; rfl
    rw [ek]
    generalize hk : cut % ((frs la).length + 1) = k
    have hk1 : k ≤ (frs la).length := by have := Nat.mod_lt cut (show 0 < (frs la).length + 1 by omega); omega
    refine a_sliceH elB hX3 (by omega) (by omega) fun vk hvk => ?_
    rw [Int.toNat_natCast, Nat.mul_one] at hvk
    have hvk' : By w3 vk ((frs la).take k) := by
      unfold By
      rw [List.length_take, Nat.min_eq_left hk1]
      have : bytesV ((frs la).take k) = (bytesV (frs la)).take k := by simp [bytesV, List.map_take]
      rw [this]; exact hvk
    refine fall_spec hvk' (by rw [List.length_take]; omega) fun m w4 ms m1 m2 m4 => ?_
    refine a_ext0 (a_ext1 ?_)
    have d4 := Below.next d3 m4
    have bw4 := Below.next bW d4
    have hY4 := hY.below d4
    -- where ways meet: what is wanted of the records cut off
    refine jni (fun vs W' => ∃ j, vs = [va, nV .i64 at_, nV .u8 x, vx, vy, m, nV .i64 (sz (recs ((frs la).take k))), nV .i64 j, nV .i64 (sz (la.take j))] ∧ W' = w4 ∧ Upto la k j) ?_ ?_
    · rintro vs W' _ ⟨j, rfl, rfl, hj⟩
      refine app9 ?_
      have hcutrec := recs_upto h6a (by omega) hj
      rw [hcutrec] at m1 m2 ⊢
      have hj1 := hj.1
      refine a_sliceH elS (ha1.below bw4) (by omega) (by omega) fun vj hvj => ?_
      rw [Int.toNat_natCast, Nat.mul_one] at hvj
      have hjl : (la.take j).length = j := by rw [List.length_take]; omega
      refine lists_spec (ls := la.take j) (ms := la.take j) (m2.bs.ls (Sl.of_own m1)) (((ha2.below bw4).take j).ls (by rw [hjl]; exact hvj)) (by rw [hjl]; omega) fun w5 m5 => ?_
      rw [decide_eq_true rfl]
      refine a_not (iff' ?_)
      refine w_neq (ifd_neg (by simp) ?_)
      have d5 := Below.next d4 m5
      have bw5 := Below.next bW d5
      refine w_lenS Try.underlying22 hX ?_
      refine w_eql (ifd (fun hz => first_spec fun w6 b6 => h w6 (Below.next bw5 b6)) fun hz => ?_)
      refine w_eql (ifd (fun hz => first_spec fun w6 b6 => h w6 (Below.next bw5 b6)) fun hz2 => ?_)
      refine copyBytes_spec (hX'.below d5) (by omega) fun t w6 t1 t2 _ => ?_
      refine w_lenS Try.underlying22 (Sl.of_own t1) ?_
      refine a_rem64 (by omega) (by omega) ?_
      have eq : (at_ : Int) % (((frs la).length : Nat) : Int) = ((at_ % (frs la).length : Nat) : Int) := by push_cast; rfl
      rw [eq]
      generalize hq : at_ % (frs la).length = q
      have hq1 : q < (frs la).length := by have := Nat.mod_lt at_ (show 0 < (frs la).length by omega); omega
      refine own_setCell elB t1 hq1 fun g hg hcell hfz => ?_
      have hb := List.getElem?_eq_getElem hq1
      generalize hbe : (frs la)[q] = b at hb
      have hcb := hcell (byteV b) (by rw [bytesV, List.getElem?_map, hb]; rfl)
      refine w_load Try.isAgg5 hcb ?_
      have hb8 := b.toNat_lt
      refine a_xorN (n := b.toNat) (m := x) (by simp only [IntKind.max, IntKind.bits, IntKind.signed]; simp; omega) (by simp only [IntKind.max, IntKind.bits, IntKind.signed]; simp; omega) ?_
      have hxb : b.toNat ^^^ x < 256 := Nat.xor_lt_two_pow (n := 8) (by omega) (by omega)
      obtain ⟨b', hb'⟩ : ∃ b' : UInt8, b'.toNat = b.toNat ^^^ x := ⟨UInt8.ofNat (b.toNat ^^^ x), by rw [UInt8.toNat_ofNat']; exact Nat.mod_eq_of_lt hxb⟩
      have ebv : nV .u8 (b.toNat ^^^ x) = byteV b' := by unfold byteV; rw [hb']
      rw [ebv]
      have hbne : (frs la)[q]? ≠ some b' := by
        rw [hb]
        intro he
        cases he
        have : b.toNat ^^^ 0 = b.toNat ^^^ x := by rw [Nat.xor_zero]; exact hb'
        have := xor_left_inj this
        exact hz2 (by omega)
      refine own_setCell elB t1 hq1 fun g' hg' _ _ => ?_
      rw [hg] at hg'
      cases hg'
      refine u_store Try.isAgg5 Try.sizeOf5 rfl hcb hfz ?_
      have mt : Mod [g] w6 (w6.setCell ⟨g, q, none⟩ (byteV b')) := Mod.of_grown (grownBy_setAt w6 g q _)
      have t3 : (w6.setCell ⟨g, q, none⟩ (byteV b')).ownsRow w5.heap.size 5 1 t (frs la).length (bytesV ((frs la).set q b')) := by
        have t1' := t1
        rcases t1.2 with ⟨rfl, _⟩ | ⟨g', cap, cur, rfl, hbg, hh, r⟩
        · cases hg
        · obtain rfl : g' = g := by simpa [Value.ownBlock] using hg
          have := (t1'.stored q (byteV b')).1
          rwa [bytesV_set] at this
      have c6 := mt.below t2 (Nat.le_refl _) (by simpa using own_base t1 g hg)
      generalize w6.setCell ⟨g, q, none⟩ (byteV b') = w7 at *
      have d7 := Below.next d5 c6
      have bw7 := Below.next bW d7
      have hY7 := hY.below d7
      refine jni (fun vs W' => ∃ j, vs = [va, vy, t, nV .i64 q, nV .i64 j] ∧ W' = w7 ∧ Upto la q j) ?_ ?_
      · rintro vs W' _ ⟨j2, rfl, rfl, hj2⟩
        refine app5 ?_
        have hset : ((frs la).set q b').length = (frs la).length := List.length_set ..
        have hT : By W' t ((frs la).set q b') := by unfold By; rw [hset]; exact Sl.of_own t3
        obtain ⟨⟨more, hmore⟩, hturn⟩ := recs_turned h6a (by omega) hj2 (b := b')
        refine fall_spec hT (by rw [hset]; omega) fun o w8 os o1 o2 o8 => ?_
        refine a_ext0 (a_ext1 ?_)
        have d8 := Below.next d7 o8
        have bw8 := Below.next bW d8
        have hj21 := hj2.1
        have hj2l : (la.take j2).length = j2 := by rw [List.length_take]; omega
        refine jni (fun vs W'' => vs = [va, nV .i64 q, nV .i64 j2, o, nV .i64 (sz (recs ((frs la).set q b'))), nV .i64 (sz (la.take j2))] ∧ W'' = w8) ?_ ?_
        · rintro vs W'' _ ⟨rfl, rfl⟩
          refine app6 ?_
          have hszj := sz_take_le la j2
          refine a_add64 (by omega) (by omega) ?_
          refine a_geq (ifd (fun hc5 => ?_) fun hc5 => ?_)
          · have hr := hturn (by omega) hbne
            rw [hr] at o1 o2 ⊢
            refine first_spec fun w9 b9 => ?_
            have d9 := Below.next d8 b9
            have bw9 := Below.next bW d9
            refine ift' rfl ?_
            refine w_eql (ifd_pos rfl ?_)
            refine a_sliceH elS (ha1.below bw9) (by omega) (by omega) fun vj2 hvj2 => ?_
            rw [Int.toNat_natCast, Nat.mul_one] at hvj2
            refine lists_spec (ls := la.take j2) (ms := la.take j2) ((o2.bs.ls (Sl.of_own o1)).below b9) (((ha2.below bw9).take j2).ls (by rw [hj2l]; exact hvj2)) (by rw [hj2l]; omega) fun w10 m10 => ?_
            rw [decide_eq_true rfl]
            exact h w10 (Below.next bw9 m10)
          · rw [hmore] at o1 o2 ⊢
            have hatr := (recs_at ((frs la).set q b')).len
            rw [hmore, hset, List.length_append, hj2l] at hatr
            refine ⟨fun w' => Below W''.heap.size W'' w', (Below.refl _ _).drew, ?_⟩
            refine first_spec fun w9 b9' => ?_
            have b9 : Below W''.heap.size W'' w9 := ((Below.refl _ W'').drew).trans b9'
            have d9 := Below.next d8 b9
            have bw9 := Below.next bW d9
            refine ⟨b9, ift' rfl ?_⟩
            have hszm : sz (la.take j2) ≤ sz (la.take j2 ++ more) := by rw [sz_append]; omega
            refine a_geq (ifd (fun _ => ?_) fun hn => absurd (by omega) hn)
            refine s_lenS Try.underlying28 (Sl.of_own o1) ?_
            have hlm : (la.take j2 ++ more).length = j2 + more.length := by rw [List.length_append, hj2l]
            refine a_geq (ifd (fun _ => ?_) fun hn => absurd (by omega) hn)
            refine a_sliceH elS ((Sl.of_own o1).below b9) (by omega) (by omega) fun vo hvo => ?_
            rw [Int.toNat_natCast, Nat.mul_one] at hvo
            refine a_sliceH elS (ha1.below bw9) (by omega) (by omega) fun vj2 hvj2 => ?_
            rw [Int.toNat_natCast, Nat.mul_one] at hvj2
            have ho9 := (o2.bs.below b9).take j2
            rw [List.take_append_of_le_length (by omega), List.take_of_length_le (l := la.take j2) (by omega)] at ho9
            refine lists_spec (ls := la.take j2) (ms := la.take j2) (ho9.ls (by rw [hj2l]; exact hvo)) (((ha2.below bw9).take j2).ls (by rw [hj2l]; exact hvj2)) (by rw [hj2l]; omega) fun w10 m10 => ?_
            rw [decide_eq_true rfl]
            exact ⟨b9.trans (m10.mono b9.size), h w10 (Below.next bw9 m10)⟩
        · refine a_gtr (ifd (fun hpos => ?_) fun hpos => ?_)
          · refine a_sub64 (by omega) (by omega) ?_
            have e3 : ((j2 : Int) - 1) = ((j2 - 1 : Nat) : Int) := by omega
            rw [e3]
            refine w_at elI Try.isAgg3 (hY7.below o8) (by omega) fun u hu => ?_
            have hu' := pos_at (pre := la) (by omega) hu
            have e4 : j2 - 1 + 1 = j2 := by omega
            rw [e4] at hu'
            subst hu'
            exact ⟨rfl, rfl⟩
          · have : j2 = 0 := by omega
            subst this
            exact ⟨rfl, rfl⟩
      · refine lpx (α := Nat) (fun j => [nV .i64 j]) (fun j W' => W' = w7 ∧ j ≤ i ∧ sz (la.take j) ≤ q) (fun j => i - j) 0 (fun _ => rfl) rfl ⟨rfl, Nat.zero_le _, by simp [sz]⟩ ?_
        rintro next2 j W' hnext2 ⟨rfl, g1, g2⟩
        refine app1 ?_
        refine w_lenS Try.underlying31 hY7 ?_
        refine a_lss (ifd (fun hc => ?_) fun hc => ?_)
        · refine w_at elI Try.isAgg3 hY7 (by omega) fun u hu => ?_
          have hu' := pos_at (pre := la) (by omega) hu
          subst hu'
          refine a_leq (ifd (fun hle => ?_) fun hle => ?_)
          · refine a_add64 (by omega) (by omega) ⟨rfl, rfl, rfl, rfl, ?_⟩
            have e3 : ((j : Int) + 1) = ((j + 1 : Nat) : Int) := by push_cast; rfl
            rw [e3]
            exact hnext2 (j + 1) W' (by omega) ⟨rfl, by omega, by omega⟩
          · exact ⟨j, rfl, rfl, by omega, g2, fun _ => by omega⟩
        · exact ⟨j, rfl, rfl, by omega, g2, fun hlt => by omega⟩
    · refine lpx (α := Nat) (fun j => [nV .i64 j, nV .i64 (sz (la.take j))]) (fun j W' => W' = w4 ∧ j ≤ i ∧ sz (la.take j) ≤ k) (fun j => i - j) 0 (fun _ => rfl) rfl ⟨rfl, Nat.zero_le _, by simp [sz]⟩ ?_
      rintro next2 j W' hnext2 ⟨rfl, g1, g2⟩
      refine app2 ?_
      refine w_lenS Try.underlying31 hY4 ?_
      refine a_lss (ifd (fun hc => ?_) fun hc => ?_)
      · refine w_at elI Try.isAgg3 hY4 (by omega) fun u hu => ?_
        have hu' := pos_at (pre := la) (by omega) hu
        subst hu'
        refine a_leq (ifd (fun hle => ?_) fun hle => ?_)
        · refine w_at elI Try.isAgg3 hY4 (by omega) fun u hu => ?_
          have hu' := pos_at (pre := la) (by omega) hu
          subst hu'
          refine a_add64 (by omega) (by omega) ⟨rfl, rfl, rfl, rfl, rfl, rfl, rfl, rfl, ?_⟩
          have e3 : ((j : Int) + 1) = ((j + 1 : Nat) : Int) := by push_cast; rfl
          rw [e3]
          exact hnext2 (j + 1) W' (by omega) ⟨rfl, by omega, by omega⟩
        · exact ⟨j, rfl, rfl, by omega, g2, fun _ => by omega⟩
      · exact ⟨j, rfl, rfl, by omega, g2, fun hlt => by omega⟩

end Go.Proofs.Ytknbnfpdcbpoeaa
