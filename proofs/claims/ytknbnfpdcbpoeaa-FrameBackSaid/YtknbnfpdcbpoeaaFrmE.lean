/-
  FRAMES: lists held against one another; all records by the document: what each function answers.
-/
import Derived.Test.YtknbnfpdcbpoeaaFrmD
namespace Go.Proofs.Ytknbnfpdcbpoeaa
open Go Go.Ez Go.RowKit
set_option linter.unusedSimpArgs false
set_option linter.unusedVariables false

theorem elS : ElT Try.prog 28 22 1 24 (.slice none 0 0) := ⟨Try.underlying28, by kernel_rfl, rfl, by decide⟩

/-- hblref.Lists -/
theorem lists_spec {u v : Value} {ls ms : List (List UInt8)} {w : World} {R : Value → World → Prop} (hu : Ls w u ls) (hv : Ls w v ms) (hl : ls.length ≤ 140737488351232)
    (h : ∀ w', Below w.heap.size w w' → R (.bool (decide (ls = ms))) w') : CallF Try.prog 17 #[u, v] w R := by
  refine sh17_calls ?_
  unfold sh17
  obtain ⟨us, hu1, hu2⟩ := hu
  obtain ⟨vs, hv1, hv2⟩ := hv
  refine w_lenS Try.underlying28 hu1 ?_
  refine w_lenS Try.underlying28 hv1 ?_
  refine w_neq (ifd (fun hc => ?_) fun hc => ?_)
  · have := h w (Below.refl _ _)
    rw [decide_eq_false (fun e => hc (by rw [e]))] at this
    exact this
  have hlen : ls.length = ms.length := by omega
  refine lpx (α := Nat) (fun x => [nV .i64 x]) (fun i W => Below w.heap.size w W ∧ i ≤ ls.length ∧ ls.take i = ms.take i) (fun i => ls.length - i) 0 (fun _ => rfl) rfl ⟨Below.refl _ _, Nat.zero_le _, rfl⟩ ?_
  rintro next i W hnext ⟨hb, hi, ht⟩
  show RunW _ _ _ _
  refine w_lenS Try.underlying28 hu1 ?_
  refine a_lss (ifd (fun hc => ?_) fun hc => ?_)
  · have hi1 : i < ls.length := by omega
    have hW : ∀ w', w' = W.drew → Below W.heap.size W w' := by rintro _ rfl; exact (Below.refl _ _).drew
    refine ⟨fun w' => w' = W.drew, rfl, ?_⟩
    refine s_at elS Try.isAgg22 (hu1.below hb) hW hi1 fun x hx => ?_
    refine s_at elS Try.isAgg22 (hv1.below hb) hW (by omega) fun y hy => ?_
    have hbd := hb.drew
    have hli := List.getElem?_eq_getElem hi1
    have hmi := List.getElem?_eq_getElem (l := ms) (i := i) (by omega)
    refine bytes_spec ((hu2.2 i x _ hx hli).below hbd) ((hv2.2 i y _ hy hmi).below hbd) ?_
    refine a_not (ifnd (fun hne => ?_) fun hne => ?_)
    · have := h _ hbd
      rw [decide_eq_false (fun e => hne (by simp only [e]))] at this
      exact this
    · have he := hne
      refine a_add64 (by omega) (by omega) ⟨rfl, rfl, ?_⟩
      have e3 : ((i : Int) + 1) = ((i + 1 : Nat) : Int) := by push_cast; rfl
      rw [e3]
      refine hnext (i + 1) _ (by omega) ⟨hbd, by omega, ?_⟩
      rw [take_snoc hli, take_snoc hmi, ht, he]
  · have : i = ls.length := by omega
    subst this
    rw [List.take_length, hlen, List.take_length] at ht
    have := h _ hb
    rw [decide_eq_true ht] at this
    exact this

/-- hblref8.All -/
theorem rall_spec {v : Value} {l : List UInt8} {w : World} {R : Value → World → Prop} (hv : By w v l) (hl : l.length ≤ 1000000000)
    (h : ∀ v' w' vs, w'.ownsRow w.heap.size 22 1 v' (recs l).length vs → Owns 5 w.heap.size w' vs (recs l) → Below w.heap.size w w' → R (.tuple #[v', nV .i64 (sz (recs l))]) w') : CallF Try.prog 14 #[v] w R := by
  refine sh14_calls ?_
  unfold sh14
  refine jni (fun vs W => ∃ v' us pre, vs = [v', nV .i64 (sz pre)] ∧ pre = recs l ∧ W.ownsRow w.heap.size 22 1 v' pre.length us ∧ Owns 5 w.heap.size W us pre ∧ Below w.heap.size w W) ?_ ?_
  · rintro vs W _ ⟨v', us, pre, rfl, rfl, h1, h2, h3⟩
    exact h v' W us h1 h2 h3
  refine lpx (α := Value × List Value × List (List UInt8)) (fun x => [x.1, nV .i64 (sz x.2.2)])
    (fun x W => At l x.2.2 ∧ W.ownsRow w.heap.size 22 1 x.1 x.2.2.length x.2.1 ∧ Owns 5 w.heap.size W x.2.1 x.2.2 ∧ Below w.heap.size w W) (fun x => l.length - sz x.2.2) (.slice none 0 0, [], []) (fun _ => rfl) rfl
    ⟨At.zero l, own_nil, Owns.nil, Below.refl _ _⟩ ?_
  rintro next ⟨v', us, pre⟩ W hnext ⟨hat, h1, h2, h3⟩
  dsimp only at hat h1 h2 h3
  have hat1 := hat.1
  have hatl := hat.len
  have out : nx (l.drop (sz pre)) = none → ∃ v'' us' pre', [v', nV .i64 (sz pre)] = [v'', nV .i64 (sz pre')] ∧ pre' = recs l ∧ W.ownsRow w.heap.size 22 1 v'' pre'.length us' ∧ Owns 5 w.heap.size W us' pre' ∧ Below w.heap.size w W :=
    fun hn => ⟨v', us, pre, rfl, hat.done hn, h1, h2, h3⟩
  generalize ha : sz pre = a at *
  have hdl : (l.drop a).length = l.length - a := List.length_drop ..
  have hvW := hv.below h3
  show RunW _ _ _ _
  refine w_lenS Try.underlying22 hv ?_
  refine a_sub64 (by omega) (by omega) ?_
  refine a_geq (ifd (fun hc => ?_) fun hc => ?_)
  · refine get1_spec (width := (2 : Nat)) hvW (by omega) (by omega) ?_
    refine a_ext0 (a_ext1 ?_)
    rw [getR_in (by decide) (by decide) (by omega)]
    dsimp only
    generalize hn : getB ((l.drop a).take 2) = n at *
    refine a_gtr (ifd (fun hc => ?_) fun hc2 => ?_)
    · exact out (by unfold nx; rw [if_neg (by omega), hn, if_pos (by omega)])
    refine w_lenS Try.underlying22 hv ?_
    refine a_sub64 (by omega) (by omega) ?_
    refine a_sub64 (by omega) (by omega) ?_
    refine a_gtr (ifd (fun hc => ?_) fun hc3 => ?_)
    · exact out (by unfold nx; rw [if_neg (by omega), hn, if_neg (by omega), if_pos (by omega)])
    refine a_add64 (by omega) (by omega) ?_
    refine a_add64 (by omega) (by omega) ?_
    refine a_add64 (by omega) (by omega) ?_
    have e2 : ((a : Int) + 6) = ((a + 6 : Nat) : Int) := by push_cast; rfl
    have e3 : ((a : Int) + 6 + (n : Int)) = ((a + 6 + n : Nat) : Int) := by push_cast; rfl
    rw [e3, e2]
    refine a_part elB hvW (by omega) (by omega) fun p hp => ?_
    have e4 : a + 6 + n - (a + 6) = n := by omega
    have e5 : l.drop (a + 6) = (l.drop a).drop 6 := by rw [List.drop_drop]
    rw [e4, e5] at hp
    generalize hpe : ((l.drop a).drop 6).take n = pl at *
    have hpl : pl.length = n := by rw [← hpe, List.length_take, List.length_drop]; omega
    refine copyBytes_spec hp (by omega) fun q w1 q1 q2 _ => ?_
    refine rput_spec (Sl.of_own q1) (by omega) (fun hx => by omega) fun _ f w2 f1 f2 => ?_
    refine a_ext0 (a_ext1 ?_)
    refine a_add64 (by omega) (by omega) ?_
    refine a_add64 (by omega) (by omega) ?_
    rw [e3]
    have b2 := Below.next q2 f2
    have hv2 := hvW.below b2
    refine a_part elB hv2 (by omega) (by omega) fun s hs => ?_
    have e6 : a + 6 + n - a = 6 + n := by omega
    rw [e6] at hs
    refine bytes_spec (Sl.of_own f1) hs ?_
    have hiff := fr_iff (r := l.drop a) (by rw [hn]; omega)
    rw [hn, hpe] at hiff
    have hnx : nx (l.drop a) = if getB (((l.drop a).drop 2).take 4) = crc ((l.drop a).take 2 ++ pl) then some pl else none := by
      unfold nx; rw [if_neg (by omega), hn, if_neg (by omega), if_neg (by omega), hpe]
    have b3 := h3.trans (b2.mono h3.size)
    have h1' := ownsRow_ext h1 b2
    have h2' : Owns 5 w.heap.size w2 us pre := h2.mod (Mod.of_below (ks := []) b2) (by simp)
    refine a_not (ifnd (fun hne => ?_) fun hne => ?_)
    · exact ⟨v', us, pre, by rw [ha], hat.done (by rw [ha, hnx, if_neg (fun he => hne (hiff.2 he))]), h1', h2', b3⟩
    · have he := hiff.1 hne
      have hnx' : nx (l.drop a) = some pl := by rw [hnx, if_pos he]
      have hat2 := hat.next (by rw [ha]; exact hnx')
      have hatl2 := hat2.len
      rw [List.length_append] at hatl2
      have q3 := own_mono (ownsRow_ext q1 f2) h3.size
      refine v_push elS h1' (one_slice (Sl.of_own q1)) (by unfold maxLen; omega) (by omega) b3.size fun v3 w3 g1 g2 g3 => ?_
      refine a_add64 (by omega) (by omega) ?_
      refine a_add64 (by omega) (by omega) ⟨rfl, ?_⟩
      rw [e3]
      have hsz : sz (pre ++ [pl]) = a + 6 + n := by rw [sz_snoc, ha, hpl]; omega
      have hm := Mod.grow h1' g2
      have := hnext (v3, us ++ [q], pre ++ [pl]) w3 (by dsimp only; rw [hsz]; omega) ⟨hat2, ?_, ?_, ?_⟩
      · dsimp only at this; rw [hsz] at this; exact this
      · dsimp only; rw [List.length_append]; exact g1
      · refine (h2'.snoc q3).mod hm fun k hk u m ho => ?_
        exact own_notOwn ho h1' (by decide) (mem_ownBlock.1 hk)
      · exact b3.grown g2 b3.size (own_base h1')
  · refine out ?_
    unfold nx
    by_cases h2 : (l.drop a).length < 2
    · rw [if_pos h2]
    · rw [if_neg h2]
      by_cases h3 : 60000 < getB ((l.drop a).take 2)
      · rw [if_pos h3]
      · rw [if_neg h3, if_pos (by omega)]

end Go.Proofs.Ytknbnfpdcbpoeaa
