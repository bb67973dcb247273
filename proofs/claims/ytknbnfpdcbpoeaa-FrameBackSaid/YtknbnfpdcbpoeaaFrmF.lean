/-
  FRAMES: the iterator over records, and all records by the program: what each function answers.
-/
import Derived.Test.YtknbnfpdcbpoeaaFrmE
namespace Go.Proofs.Ytknbnfpdcbpoeaa
open Go Go.Ez Go.RowKit
set_option linter.unusedSimpArgs false
set_option linter.unusedVariables false

/-- frame.Scan -/
theorem scan_spec {v : Value} {l : List UInt8} {w : World} {R : Value → World → Prop} (hv : By w v l)
    (h : ∀ w', w'.heap.size = w.heap.size + 1 → Boxed w' w.heap.size 22 v → Below w.heap.size w w' → R (.func (.func 32) #[] #[.pointer (some ⟨w.heap.size, 0, none⟩)]) w') : CallF Try.prog 16 #[v] w R := by
  refine sh16_calls ?_
  unfold sh16
  refine v_boxBox (one_slice hv) fun w' h1 h2 h3 => ?_
  exact v_func (h w' h1 h2 h3)

/-- the function that frame.Scan hands back, called with whatever takes the records -/
theorem scan1_spec {yv v : Value} {b B : Nat} {l : List UInt8} {w : World} {R : Value → World → Prop} (Inv Stop : List (List UInt8) → World → Prop) (hl : l.length ≤ 1000000000)
    (hInv : ∀ pre W, Inv pre W → Boxed W b 22 v ∧ By W v l ∧ B ≤ W.heap.size)
    (hext : ∀ pre W W', Inv pre W → Below W.heap.size W W' → Inv pre W')
    (hY : ∀ pre p v' W (K : Value → World → Prop), Inv pre W → At l pre → nx (l.drop (sz pre)) = some p → W.ownsRow B 5 1 v' p.length (bytesV p) → (∀ W', Inv (pre ++ [p]) W' → K (.bool true) W') → (∀ W', Stop (pre ++ [p]) W' → K (.bool false) W') →
      CallV Try.prog yv #[nV .i64 (sz (pre ++ [p])), v'] W K)
    (h0 : Inv [] w) (hdone : ∀ W, Inv (recs l) W → R (.tuple #[]) W) (hstop : ∀ pre W, At l pre → Stop pre W → R (.tuple #[]) W) :
    CallF Try.prog 32 #[yv, .pointer (some ⟨b, 0, none⟩)] w R := by
  refine sh32_calls ?_
  unfold sh32
  refine lpx (α := List (List UInt8)) (fun x => [nV .i64 (sz x)]) (fun pre W => At l pre ∧ Inv pre W) (fun x => l.length - sz x) [] (fun _ => rfl) rfl ⟨At.zero l, h0⟩ ?_
  rintro next pre W hnext ⟨hat, hi⟩
  obtain ⟨hb, hv, hB⟩ := hInv _ _ hi
  have hat1 := hat.1
  show RunW _ _ _ _
  refine w_box Try.isAgg22 hb ?_
  refine next_spec hv (by omega) hat1 fun v' w1 h1 h2 => ?_
  refine a_ext0 (a_ext1 ?_)
  refine a_not (ifnb (fun hc => ?_) fun hc => ?_)
  · have hn : nx (l.drop (sz pre)) = none := by simpa using hc
    have := hext _ _ _ hi h2
    rw [hat.done hn] at this
    exact hdone w1 this
  · obtain ⟨p, hp⟩ := Option.isSome_iff_exists.1 hc
    have hv' := h1 p hp
    have hlen := nx_len hp
    rw [List.length_drop] at hlen
    refine w_lenS Try.underlying22 hv' ?_
    refine a_add64 (by omega) (by omega) ?_
    refine a_add64 (by omega) (by omega) ?_
    have e3 : ((sz pre : Nat) : Int) + (6 + (p.length : Int)) = ((sz (pre ++ [p]) : Nat) : Int) := by rw [sz_snoc]; push_cast; omega
    rw [e3]
    refine clone_spec hv' (by omega) fun v2 w2 g1 g2 => ?_
    have hi2 := hext _ _ _ hi (Below.next h2 g2)
    have hB2 := h2.size
    refine hY pre p v2 w2 _ hi2 hat hp (own_mono g1 (by omega)) (fun W' hi' => ?_) (fun W' hs => ?_)
    · refine a_not (iff' ⟨rfl, rfl, ?_⟩)
      have hat2 := hat.next hp
      exact hnext _ W' (by rw [sz_snoc]; omega) ⟨hat2, hi'⟩
    · exact a_not (ift (hstop _ W' (hat.next hp) hs))

/-- frame.All -/
theorem fall_spec {v : Value} {l : List UInt8} {w : World} {R : Value → World → Prop} (hv : By w v l) (hl : l.length ≤ 1000000000)
    (h : ∀ v' w' vs, w'.ownsRow w.heap.size 22 1 v' (recs l).length vs → Owns 5 w.heap.size w' vs (recs l) → Below w.heap.size w w' → R (.tuple #[v', nV .i64 (sz (recs l))]) w') : CallF Try.prog 13 #[v] w R := by
  refine sh13_calls ?_
  unfold sh13
  refine v_allocBox Try.zeroValue28 rfl fun w1 z1 b1 m1 => ?_
  refine v_allocBox Try.zeroValue3 rfl fun w2 z2 b2 m2 => ?_
  refine u_box Try.isAgg3 Try.sizeOf3 rfl b2 fun w3 b3 m3 => ?_
  have c1 : Below w.heap.size w w3 := m3.below (Below.next m1 m2) (Nat.le_refl _) (by simp; omega)
  have hs3 := m3.size
  have k3 : Boxed w3 w.heap.size 28 (.slice none 0 0) := m3.boxed ((Mod.of_below (ks := []) m2).boxed b1 (by simp)) (by simp; omega)
  refine scan_spec (hv.below c1) fun w4 z4 b4 m4 => ?_
  have c4 := Below.next c1 m4
  have k4 : Boxed w4 w.heap.size 28 (.slice none 0 0) := (Mod.of_below (ks := []) m4).boxed k3 (by simp)
  have j4 : Boxed w4 w1.heap.size 3 (nV .i64 0) := (Mod.of_below (ks := []) m4).boxed b3 (by simp)
  unfold rngP
  refine ⟨(fun l0 hl0 => nomatch hl0), 32, _, rfl, hent _ (by kernel_rfl), ?_⟩
  intro ll D rec W1 hll hlt hD hW1 hL hDD hround
  obtain ⟨hD1, hD2⟩ := hD rfl
  have hDD := hDD rfl
  have cW := c4.trans (hW1.mono c4.size)
  have mW : Mod [] w4 W1 := Mod.of_below hW1
  refine scan1_spec (v := v) (B := w4.heap.size) (l := l)
    (fun pre W => ∃ vl vs, Below w.heap.size w W ∧ w4.heap.size ≤ W.heap.size ∧ Boxed W w.heap.size 28 vl ∧ Boxed W w1.heap.size 3 (nV .i64 (sz pre)) ∧ Boxed W w3.heap.size 22 v ∧ W.heap[ll]? = some (.loop (rec .ready none)) ∧ W.heap[D]? = some (.deferred (some [])) ∧
      W.ownsRow w4.heap.size 22 1 vl pre.length vs ∧ Owns 5 w4.heap.size W vs pre)
    (fun _ _ => False) hl ?_ ?_ ?_ ?_ ?_ (fun _ _ _ hf => hf.elim)
  · rintro pre W ⟨vl, vs, i1, i2, i3, i4, i5, i6, i7, i8, i9⟩
    exact ⟨i5, hv.below i1, i2⟩
  · rintro pre W W' ⟨vl, vs, i1, i2, i3, i4, i5, i6, i7, i8, i9⟩ hb
    have m : Mod [] W W' := Mod.of_below hb
    exact ⟨vl, vs, m.below i1 (Nat.le_refl _) (by simp), Nat.le_trans i2 m.size, m.boxed i3 (by simp), m.boxed i4 (by simp), m.boxed i5 (by simp), m.heap i6 (by simp), m.heap i7 (by simp), m.own i8 (by simp), i9.mod m (by simp)⟩
  · rintro pre p v' W K ⟨vl, vs, i1, i2, i3, i4, i5, i6, i7, i8, i9⟩ hat hp hown hgo _
    have hlen := (hat.next hp).len
    rw [List.length_append] at hlen
    refine hround [_, _] W K rfl i6 ⟨i6, ?_⟩
    -- the round, its record busy
    have m0 := Mod.putObj W ll (.loop (rec .busy none))
    have l0 : (W.putObj ll (.loop (rec .busy none))).heap[ll]? = some (.loop (rec .busy none)) := World.putObj_heap_same (Array.getElem?_eq_some_iff.1 i6).1
    have x3 := m0.boxed i3 (box_notAt i3 i6 rfl)
    have x4 := m0.boxed i4 (box_notAt i4 i6 rfl)
    have x5 := m0.boxed i5 (box_notAt i5 i6 rfl)
    have x7 := m0.heap i7 (by simp; omega)
    have x8 := m0.own i8 (fun k hk => by rw [List.mem_singleton] at hk; subst hk; exact own_not i8 i6 (by simp))
    have x9 := i9.mod m0 (fun k hk u n ho => by rw [List.mem_singleton] at hk; subst hk; exact own_not ho i6 (by simp))
    have xo := m0.own hown (fun k hk => by rw [List.mem_singleton] at hk; subst hk; exact own_not hown i6 (by simp))
    have x1 := m0.below i1 (Nat.le_refl _) (by simp; have := c4.size; omega)
    have x2 := Nat.le_trans i2 m0.size
    generalize W.putObj ll (.loop (rec .busy none)) = Wb at *
    show RunW _ _ _ _
    refine w_box Try.isAgg28 x3 ?_
    refine v_push elS x8 (one_slice (Sl.of_own xo)) (by unfold maxLen; omega) (by omega) x2 fun v3 w5 g1 g2 g3 => ?_
    have mg := Mod.grow x8 g2
    have nb : ∀ {b : Nat} {t : TypeId} {u : Value}, Boxed Wb b t u → b < w4.heap.size → b ∉ vl.ownBlock.toList := fun hb hlt hm => own_notLow x8 hlt (mem_ownBlock.1 hm)
    have hz1 := m1.size
    have hz2 := m2.size
    have y3 := mg.boxed x3 (nb x3 (by omega))
    have y4 := mg.boxed x4 (nb x4 (by omega))
    have y5 := mg.boxed x5 (nb x5 (by omega))
    have y7 := mg.heap x7 (fun hm => own_not x8 x7 (by simp) (mem_ownBlock.1 hm))
    have yl := mg.heap l0 (fun hm => own_not x8 l0 (by simp) (mem_ownBlock.1 hm))
    have y9 := (x9.snoc xo).mod mg (fun k hk u m ho => own_notOwn ho x8 (by decide) (mem_ownBlock.1 hk))
    have y1 := x1.grown g2 x1.size (fun k hk => by have := own_base x8 k hk; have := c4.size; omega)
    have y2 := Nat.le_trans x2 mg.size
    refine u_box Try.isAgg28 Try.sizeOf28 (one_slice (Sl.of_own g1)) y3 fun w6 b6 m6 => ?_
    have q4 := m6.boxed y4 (by simp; omega)
    refine u_box Try.isAgg3 Try.sizeOf3 rfl q4 fun w7 b7 m7 => ?_
    have m67 : Mod [w.heap.size, w1.heap.size] w5 w7 := (m6.mono (by simp)).trans (m7.mono (by simp))
    have nc : ∀ {k : Nat}, k ∈ [w.heap.size, w1.heap.size] → k < w4.heap.size := fun hk => by
      simp only [List.mem_cons, List.not_mem_nil, or_false] at hk
      omega
    have tl := m67.heap yl (fun hm => by have := nc hm; omega)
    have m8 := Mod.putObj w7 ll (.loop (rec .ready none))
    refine ⟨tl, hgo _ ⟨v3, vs ++ [v'], ?_, ?_, ?_, ?_, ?_, ?_, ?_, ?_, ?_⟩⟩
    · refine m8.below (m67.below y1 (Nat.le_refl _) ?_) (Nat.le_refl _) ?_
      · simp; omega
      · simp; have := c4.size; omega
    · exact Nat.le_trans y2 (Nat.le_trans m67.size m8.size)
    · exact m8.boxed (m7.boxed b6 (by simp; omega)) (by simp; omega)
    · exact m8.boxed b7 (by simp; omega)
    · exact m8.boxed (m67.boxed y5 (by simp; omega)) (by simp; omega)
    · exact World.putObj_heap_same (Array.getElem?_eq_some_iff.1 tl).1
    · exact m8.heap (m67.heap y7 (by simp; omega)) (by simp; omega)
    · rw [List.length_append]
      have g1' := m67.own g1 (fun k hk => own_notLow g1 (nc hk))
      exact m8.own g1' (fun k hk => by rw [List.mem_singleton] at hk; subst hk; exact own_not g1' tl (by simp))
    · have y9' := y9.mod m67 (fun k hk u m ho => own_notLow ho (nc hk))
      exact y9'.mod m8 (fun k hk u m ho => by rw [List.mem_singleton] at hk; subst hk; exact own_not ho tl (by simp))
  · exact ⟨.slice none 0 0, [], cW, hW1.size, mW.boxed k4 (by simp), mW.boxed j4 (by simp), mW.boxed b4 (by simp), hL, hDD, own_nil, Owns.nil⟩
  · rintro W ⟨vl, vs, i1, i2, i3, i4, i5, i6, i7, i8, i9⟩
    refine Or.inl ⟨i6, ?_⟩
    have m0 := Mod.putObj W ll (.loop (rec .exhausted none))
    have hz1 := m1.size
    have hz2 := m2.size
    have x3 := m0.boxed i3 (by simp; omega)
    have x4 := m0.boxed i4 (by simp; omega)
    have x7 := m0.heap i7 (by simp; omega)
    have x8 := m0.own i8 (fun k hk => by rw [List.mem_singleton] at hk; subst hk; exact own_not i8 i6 (by simp))
    have x9 := i9.mod m0 (fun k hk u n ho => by rw [List.mem_singleton] at hk; subst hk; exact own_not ho i6 (by simp))
    have x1 := m0.below i1 (Nat.le_refl _) (by simp; have := c4.size; omega)
    generalize W.putObj ll (.loop (rec .exhausted none)) = Wb at *
    refine ⟨fun w' => w' = Wb.drew, rfl, ?_⟩
    refine s_box Try.isAgg28 (fun w' hw => by subst hw; exact x3) ?_
    refine s_box Try.isAgg3 (fun w' hw => by subst hw; exact x4) ⟨x7, ?_⟩
    have m9 : Mod [D] Wb (Wb.drew.putObj D (.deferred none)) := ((Mod.drew Wb).mono (by simp)).trans (Mod.putObj _ _ _)
    have t8 := m9.own x8 (fun k hk => by rw [List.mem_singleton] at hk; subst hk; exact own_not x8 x7 (by simp))
    have t9 := x9.mod m9 (fun k hk u n ho => by rw [List.mem_singleton] at hk; subst hk; exact own_not ho x7 (by simp))
    exact h vl _ vs (own_mono t8 c4.size) (t9.base c4.size) (m9.below x1 (Nat.le_refl _) (by simp; have := c4.size; omega))

end Go.Proofs.Ytknbnfpdcbpoeaa
