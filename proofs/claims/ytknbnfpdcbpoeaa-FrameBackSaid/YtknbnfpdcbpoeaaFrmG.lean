/-
  FRAMES: the first so many records that the iterator tells; what the chapter's examples fix: what each function answers.
-/
import Derived.Test.YtknbnfpdcbpoeaaFrmF
namespace Go.Proofs.Ytknbnfpdcbpoeaa
open Go Go.Ez Go.RowKit
set_option linter.unusedSimpArgs false
set_option linter.unusedVariables false

theorem elI : ElT Try.prog 31 3 1 8 (.int .i64 0) := ⟨Try.underlying31, by kernel_rfl, rfl, by decide⟩

/-- the places behind records -/
def posV (pre : List (List UInt8)) : List Value := (List.range pre.length).map fun i => nV .i64 (sz (pre.take (i + 1)))
theorem posV_length (pre : List (List UInt8)) : (posV pre).length = pre.length := by simp [posV]
theorem posV_snoc (pre : List (List UInt8)) (p : List UInt8) : posV (pre ++ [p]) = posV pre ++ [nV .i64 (sz (pre ++ [p]))] := by
  unfold posV
  rw [List.length_append, List.length_singleton, List.range_succ, List.map_append, List.map_singleton]
  congr 1
  · refine List.map_congr_left fun i hi => ?_
    rw [List.mem_range] at hi
    rw [List.take_append_of_le_length (by omega)]
  · rw [List.take_of_length_le (by simp)]

/-- what holds in a round of scanned -/
structure ScF (w : World) (B ll D : Nat) (o : Obj) (bn ba bc : Nat) (n : Int) (ua uc va vc : Value) (xa xc : List Value) (ls : List (List UInt8)) (W : World) : Prop where
  low : Below w.heap.size w W
  size : B ≤ W.heap.size
  bn : Boxed W bn 3 (.int .i64 n)
  ba : Boxed W ba 31 ua
  bc : Boxed W bc 28 uc
  loop : W.heap[ll]? = some o
  dfr : W.heap[D]? = some (.deferred (some []))
  oa : W.ownsRow B 3 1 va xa.length xa
  oc : W.ownsRow B 22 1 vc xc.length xc
  owns : Owns 5 B W xc ls

section
variable {w : World} {B ll D : Nat} {o : Obj} {bn ba bc : Nat} {n : Int} {ua uc va vc : Value} {xa xc : List Value} {ls : List (List UInt8)} {W W' : World}

theorem ScF.ext (h : ScF w B ll D o bn ba bc n ua uc va vc xa xc ls W) (hb : Below W.heap.size W W') : ScF w B ll D o bn ba bc n ua uc va vc xa xc ls W' := by
  have m : Mod [] W W' := Mod.of_below hb
  exact ⟨m.below h.low (Nat.le_refl _) (by simp), Nat.le_trans h.size m.size, m.boxed h.bn (by simp), m.boxed h.ba (by simp), m.boxed h.bc (by simp), m.heap h.loop (by simp), m.heap h.dfr (by simp), m.own h.oa (by simp), m.own h.oc (by simp), h.owns.mod m (by simp)⟩
theorem ScF.alloc (h : ScF w B ll D o bn ba bc n ua uc va vc xa xc ls W) (o' : Obj) : ScF w B ll D o bn ba bc n ua uc va vc xa xc ls (W.alloc o') := h.ext ((Below.refl _ W).alloc (Nat.le_refl _) _)
/-- the loop's record turned -/
theorem ScF.put (h : ScF w B ll D o bn ba bc n ua uc va vc xa xc ls W) (ho : o.isCells = false) (hll : D ≠ ll) (hwl : w.heap.size ≤ ll) (o' : Obj) : ScF w B ll D o' bn ba bc n ua uc va vc xa xc ls (W.putObj ll o') := by
  have m := Mod.putObj W ll o'
  have nc : ∀ e cs, o ≠ .cells cs e (0, 0) := fun e cs he => by rw [he] at ho; cases ho
  exact ⟨m.below h.low (Nat.le_refl _) (by simpa using hwl), Nat.le_trans h.size m.size, m.boxed h.bn (box_notAt h.bn h.loop ho), m.boxed h.ba (box_notAt h.ba h.loop ho), m.boxed h.bc (box_notAt h.bc h.loop ho),
    World.putObj_heap_same (Array.getElem?_eq_some_iff.1 h.loop).1, m.heap h.dfr (by simpa using hll),
    m.own h.oa (fun k hk => by rw [List.mem_singleton] at hk; subst hk; exact own_not h.oa h.loop (nc _)), m.own h.oc (fun k hk => by rw [List.mem_singleton] at hk; subst hk; exact own_not h.oc h.loop (nc _)),
    h.owns.mod m (fun k hk u q ho => by rw [List.mem_singleton] at hk; subst hk; exact own_not ho h.loop (nc _))⟩
theorem ScF.appA (h : ScF w B ll D o bn ba bc n ua uc va vc xa xc ls W) (ho : o.isCells = false) (hwB : w.heap.size ≤ B) (h1 : bn < B) (h2 : ba < B) (h3 : bc < B) {va' x : Value} (hg : W.grownBy W' va.ownBlock) (ha : W'.ownsRow B 3 1 va' (xa.length + 1) (xa ++ [x])) :
    ScF w B ll D o bn ba bc n ua uc va' vc (xa ++ [x]) xc ls W' := by
  have m := Mod.grow h.oa hg
  have nc : ∀ e cs, o ≠ .cells cs e (0, 0) := fun e cs he => by rw [he] at ho; cases ho
  have nb : ∀ k, k < B → k ∉ va.ownBlock.toList := fun k hlt hm => own_notLow h.oa hlt (mem_ownBlock.1 hm)
  exact ⟨m.below h.low (Nat.le_refl _) (fun k hk => by have := own_base h.oa k (mem_ownBlock.1 hk); omega), Nat.le_trans h.size m.size, m.boxed h.bn (nb _ h1), m.boxed h.ba (nb _ h2), m.boxed h.bc (nb _ h3),
    m.heap h.loop (fun hm => own_not h.oa h.loop (nc _) (mem_ownBlock.1 hm)), m.heap h.dfr (fun hm => own_not h.oa h.dfr (by simp) (mem_ownBlock.1 hm)), by rw [List.length_append]; exact ha,
    m.own h.oc (fun k hk => own_notOwn h.oc h.oa (by decide) (mem_ownBlock.1 hk)), h.owns.mod m (fun k hk u q ho => own_notOwn ho h.oa (by decide) (mem_ownBlock.1 hk))⟩
theorem ScF.appC (h : ScF w B ll D o bn ba bc n ua uc va vc xa xc ls W) (ho : o.isCells = false) (hwB : w.heap.size ≤ B) (h1 : bn < B) (h2 : ba < B) (h3 : bc < B) {vc' v : Value} {p : List UInt8} (hp : W.ownsRow B 5 1 v p.length (bytesV p)) (hg : W.grownBy W' vc.ownBlock) (hc : W'.ownsRow B 22 1 vc' (xc.length + 1) (xc ++ [v])) :
    ScF w B ll D o bn ba bc n ua uc va vc' xa (xc ++ [v]) (ls ++ [p]) W' := by
  have m := Mod.grow h.oc hg
  have nc : ∀ e cs, o ≠ .cells cs e (0, 0) := fun e cs he => by rw [he] at ho; cases ho
  have nb : ∀ k, k < B → k ∉ vc.ownBlock.toList := fun k hlt hm => own_notLow h.oc hlt (mem_ownBlock.1 hm)
  exact ⟨m.below h.low (Nat.le_refl _) (fun k hk => by have := own_base h.oc k (mem_ownBlock.1 hk); omega), Nat.le_trans h.size m.size, m.boxed h.bn (nb _ h1), m.boxed h.ba (nb _ h2), m.boxed h.bc (nb _ h3),
    m.heap h.loop (fun hm => own_not h.oc h.loop (nc _) (mem_ownBlock.1 hm)), m.heap h.dfr (fun hm => own_not h.oc h.dfr (by simp) (mem_ownBlock.1 hm)),
    m.own h.oa (fun k hk => own_notOwn h.oa h.oc (by decide) (mem_ownBlock.1 hk)), by rw [List.length_append]; exact hc, (h.owns.snoc hp).mod m (fun k hk u q ho => own_notOwn ho h.oc (by decide) (mem_ownBlock.1 hk))⟩
/-- both variables set -/
theorem ScF.set (h : ScF w B ll D o bn ba bc n ua uc va vc xa xc ls W) (hwa : w.heap.size ≤ ba) (hwc : w.heap.size ≤ bc) (h1 : ba < B) (h2 : bc < B) (hac : ba ≠ bc) (hna : bn ≠ ba) (hnc : bn ≠ bc) (ho : o.isCells = false) {ta tc : Value} (m : Mod [ba, bc] W W') (ha : Boxed W' ba 31 ta) (hc : Boxed W' bc 28 tc) :
    ScF w B ll D o bn ba bc n ta tc va vc xa xc ls W' := by
  have nk : ∀ k ∈ [ba, bc], k < B := by intro k hk; simp at hk; omega
  have nn : ∀ {k : Nat} {o' : Obj}, W.heap[k]? = some o' → o'.isCells = false → k ∉ [ba, bc] := by
    intro k o' hk hn hm
    simp only [List.mem_cons, List.not_mem_nil, or_false] at hm
    rcases hm with rfl | rfl
    · exact box_notAt h.ba hk hn (by simp)
    · exact box_notAt h.bc hk hn (by simp)
  exact ⟨m.below h.low (Nat.le_refl _) (by simp; omega), Nat.le_trans h.size m.size, m.boxed h.bn (by simp; omega), ha, hc, m.heap h.loop (nn h.loop ho), m.heap h.dfr (nn h.dfr rfl),
    m.own h.oa (fun k hk => own_notLow h.oa (nk k hk)), m.own h.oc (fun k hk => own_notLow h.oc (nk k hk)), h.owns.mod m (fun k hk u q ho => own_notLow ho (nk k hk))⟩
end

/-- hbllaw9.scanned -/
theorem scanned_spec {v : Value} {b : Nat} {l : List UInt8} {w : World} {n : Int} {R : Value → World → Prop} (hb : Boxed w b 22 v) (hv : By w v l) (hl : l.length ≤ 1000000000)
    (h0 : n < 1 → ∀ w', Below w.heap.size w w' → R (.tuple #[.slice none 0 0, .slice none 0 0]) w')
    (h1 : 1 ≤ n → ∀ va vc w' vs pre, pre = (recs l).take n.toNat → w'.ownsRow w.heap.size 3 1 va pre.length (posV pre) → w'.ownsRow w.heap.size 22 1 vc pre.length vs → Owns 5 w.heap.size w' vs pre → Below w.heap.size w w' → R (.tuple #[va, vc]) w') :
    CallF Try.prog 15 #[.func (.func 32) #[] #[.pointer (some ⟨b, 0, none⟩)], .int .i64 n] w R := by
  refine sh15_calls ?_
  unfold sh15
  refine v_boxBox rfl fun w1 z1 b1 m1 => ?_
  refine v_allocBox Try.zeroValue31 rfl fun w2 z2 b2 m2 => ?_
  refine v_allocBox Try.zeroValue28 rfl fun w3 z3 b3 m3 => ?_
  have c3 := Below.next (Below.next m1 m2) m3
  have k1 : Boxed w3 w.heap.size 3 (.int .i64 n) := (Mod.of_below (ks := []) (Below.next m2 m3)).boxed b1 (by simp)
  have k2 : Boxed w3 w1.heap.size 31 (.slice none 0 0) := (Mod.of_below (ks := []) m3).boxed b2 (by simp)
  refine w_nilFn Try.underlying35 ?_
  refine iff' ?_
  refine w_box Try.isAgg3 k1 ?_
  refine a_lss (ifd (fun hc => h0 hc _ c3) fun hc => ?_)
  unfold rngP
  refine ⟨(fun l0 hl0 => nomatch hl0), 32, _, rfl, hent _ (by kernel_rfl), ?_⟩
  intro ll D rec W1 hll hlt hD hW1 hL hDD hround
  obtain ⟨hD1, hD2⟩ := hD rfl
  have hDD := hDD rfl
  obtain ⟨n, rfl⟩ := Int.eq_ofNat_of_zero_le (show 0 ≤ n by omega)
  have hn1 : 1 ≤ n := by omega
  simp only [Int.toNat_natCast] at h1
  have cW := c3.trans (hW1.mono c3.size)
  have mW : Mod [] w3 W1 := Mod.of_below hW1
  have hbw := hb.lt
  have fin : ∀ (pre : List (List UInt8)) (W : World) (D' : Nat) (va vc : Value) (xc : List Value) (o : Obj), pre = (recs l).take n → ScF w w3.heap.size ll D o w.heap.size w1.heap.size w2.heap.size n va vc va vc (posV pre) xc pre W → o.isCells = false → ∀ o' : Obj,
      drw (fun S w => RunS Try.prog S (Instr.loadAt 31 (.pointer (some ⟨w1.heap.size, 0, none⟩))) fun x => RunS Try.prog S (Instr.loadAt 28 (.pointer (some ⟨w2.heap.size, 0, none⟩))) fun y =>
        w.heap[D]? = some (.deferred (some [])) ∧ R (.tuple #[x, y]) (w.putObj D (.deferred none))) (W.putObj ll o') := by
    intro pre W _ va vc xc o hpre hS ho o'
    have hS := hS.put ho (by omega) (by omega) o'
    generalize W.putObj ll o' = Wb at *
    refine ⟨fun w' => w' = Wb.drew, rfl, ?_⟩
    refine s_box Try.isAgg31 (fun w' hw => by subst hw; exact hS.ba) ?_
    refine s_box Try.isAgg28 (fun w' hw => by subst hw; exact hS.bc) ⟨hS.dfr, ?_⟩
    have m9 : Mod [D] Wb (Wb.drew.putObj D (.deferred none)) := ((Mod.drew Wb).mono (by simp)).trans (Mod.putObj _ _ _)
    have t1 := m9.own hS.oa (fun k hk => by rw [List.mem_singleton] at hk; subst hk; exact own_not hS.oa hS.dfr (by simp))
    have t2 := m9.own hS.oc (fun k hk => by rw [List.mem_singleton] at hk; subst hk; exact own_not hS.oc hS.dfr (by simp))
    have t3 := hS.owns.mod m9 (fun k hk u q ho => by rw [List.mem_singleton] at hk; subst hk; exact own_not ho hS.dfr (by simp))
    rw [posV_length] at t1
    have hlc : xc.length = pre.length := hS.owns.1
    rw [hlc] at t2
    exact h1 (by omega) va vc _ xc pre hpre (own_mono t1 c3.size) (own_mono t2 c3.size) (t3.base c3.size) (m9.below hS.low (Nat.le_refl _) (by simp; have := c3.size; omega))
  have hz1 := m1.size
  have hz2 := m2.size
  have hz3 := m3.size
  refine scan1_spec (v := v) (B := w3.heap.size) (l := l)
    (fun pre W => pre.length < n ∧ ∃ va vc xc, ScF w w3.heap.size ll D (.loop (rec .ready none)) w.heap.size w1.heap.size w2.heap.size n va vc va vc (posV pre) xc pre W)
    (fun pre W => pre.length = n ∧ ∃ va vc xc, ScF w w3.heap.size ll D (.loop (rec .done (some (.exit 0)))) w.heap.size w1.heap.size w2.heap.size n va vc va vc (posV pre) xc pre W) hl ?_ ?_ ?_ ?_ ?_ ?_
  · rintro pre W ⟨_, va, vc, xc, hS⟩
    exact ⟨by have := hS.low.block b hbw; exact this.trans hb, hv.below hS.low, hS.size⟩
  · rintro pre W W' ⟨hp, va, vc, xc, hS⟩ hbl
    exact ⟨hp, va, vc, xc, hS.ext hbl⟩
  · rintro pre p v' W K ⟨hpn, va, vc, xc, hS⟩ hat hp hown hgo hst
    have hlen := (hat.next hp).len
    rw [List.length_append, List.length_singleton] at hlen
    have hlc : xc.length = pre.length := hS.owns.1
    have hla := posV_length pre
    refine hround [_, _] W K rfl hS.loop ⟨hS.loop, ?_⟩
    have own' : (W.putObj ll (.loop (rec .busy none))).ownsRow w3.heap.size 5 1 v' p.length (bytesV p) := (Mod.putObj W ll _).own hown (fun k hk => by rw [List.mem_singleton] at hk; subst hk; exact own_not hown hS.loop (by simp))
    replace hS := hS.put rfl (by omega) (by omega) (.loop (rec .busy none))
    generalize W.putObj ll (.loop (rec .busy none)) = Wb at *
    have hpv := one_slice (Sl.of_own own')
    -- where the orders meet
    refine app5 ?_
    refine jni (fun vs W' => vs = [.pointer (some ⟨w.heap.size, 0, none⟩), .pointer (some ⟨w1.heap.size, 0, none⟩)] ∧ ∃ va vc xc, ScF w w3.heap.size ll D (.loop (rec .busy none)) w.heap.size w1.heap.size w2.heap.size n va vc va vc (posV (pre ++ [p])) xc (pre ++ [p]) W') ?_ ?_
    · rintro vs W' _ ⟨rfl, va', vc', xc', hS'⟩
      show RunW _ _ _ _
      refine w_box Try.isAgg31 hS'.ba ?_
      refine w_lenS Try.underlying31 (Sl.of_own hS'.oa) ?_
      refine w_box Try.isAgg3 hS'.bn ?_
      refine w_eql (ifd (fun hc => ?_) fun hc => ?_)
      · rw [posV_length] at hc
        exact ⟨hS'.loop, hst _ ⟨by omega, va', vc', xc', hS'.put rfl (by omega) (by omega) _⟩⟩
      · rw [posV_length, List.length_append, List.length_singleton] at hc
        exact ⟨hS'.loop, hgo _ ⟨by rw [List.length_append, List.length_singleton]; omega, va', vc', xc', hS'.put rfl (by omega) (by omega) _⟩⟩
    · have stores : ∀ (W' : World) (va' vc' : Value), ScF w w3.heap.size ll D (.loop (rec .busy none)) w.heap.size w1.heap.size w2.heap.size n va vc va' vc' (posV pre ++ [nV .i64 (sz (pre ++ [p]))]) (xc ++ [v']) (pre ++ [p]) W' →
          RunU Try.prog (Instr.storeAt 31 (.pointer (some ⟨w1.heap.size, 0, none⟩)) va') W' fun x1 => RunU Try.prog (Instr.storeAt 28 (.pointer (some ⟨w2.heap.size, 0, none⟩)) vc') x1 fun x2 =>
            (fun (vs : List Value) (W' : World) => vs = [.pointer (some ⟨w.heap.size, 0, none⟩), .pointer (some ⟨w1.heap.size, 0, none⟩)] ∧ ∃ va vc xc, ScF w w3.heap.size ll D (.loop (rec .busy none)) w.heap.size w1.heap.size w2.heap.size n va vc va vc (posV (pre ++ [p])) xc (pre ++ [p]) W') [.pointer (some ⟨w.heap.size, 0, none⟩), .pointer (some ⟨w1.heap.size, 0, none⟩)] x2 := by
        intro W' va' vc' hS'
        refine u_box Try.isAgg31 Try.sizeOf31 (one_slice (Sl.of_own hS'.oa)) hS'.ba fun w6 b6 m6 => ?_
        refine u_box Try.isAgg28 Try.sizeOf28 (one_slice (Sl.of_own hS'.oc)) (m6.boxed hS'.bc (by simp; omega)) fun w7 b7 m7 => ?_
        have m67 : Mod [w1.heap.size, w2.heap.size] W' w7 := (m6.mono (by simp)).trans (m7.mono (by simp))
        refine ⟨rfl, va', vc', xc ++ [v'], ?_⟩
        rw [posV_snoc]
        exact hS'.set (by omega) (by omega) (by omega) (by omega) (by omega) (by omega) (by omega) rfl m67 (m7.boxed b6 (by simp; omega)) b7
      -- the ways in which the steps may follow one another
      have hSd : ScF w w3.heap.size ll D (.loop (rec .busy none)) w.heap.size w1.heap.size w2.heap.size n va vc va vc (posV pre) xc pre Wb.drew := hS.ext (Below.refl _ _).drew
      have ownd := ownsRow_ext own' (Below.refl _ _).drew
      refine ⟨fun W' => Boxed W' w1.heap.size 31 va ∧ Boxed W' w2.heap.size 28 vc, ⟨hSd.ba, hSd.bc⟩, ?_⟩
      refine s_box Try.isAgg31 (fun w' hw => hw.1) ?_
      refine s_box Try.isAgg28 (fun w' hw => hw.2) ?_
      generalize Wb.drew = Wd at *
      have lit : ∀ (W : World) (e : TypeId) (x : Value), (W.alloc (.cells #[x] e)).ownsRow 0 e 1 (.slice (some ⟨W.heap.size, 0, none⟩) 1 1) 1 [x] := fun W e x => own_lit (base := 0) (cs := [x]) (Nat.zero_le _) rfl (by unfold maxLen; omega)
      have appA : ∀ (W : World) (u : Value) (vc' : Value) (xc' : List Value) (ls' : List (List UInt8)) (KK : Value → World → Prop), ScF w w3.heap.size ll D (.loop (rec .busy none)) w.heap.size w1.heap.size w2.heap.size n va vc va vc' (posV pre) xc' ls' W →
          Sl W 1 u 1 [nV .i64 (sz (pre ++ [p]))] → (∀ va' W', Mod va.ownBlock.toList W W' → ScF w w3.heap.size ll D (.loop (rec .busy none)) w.heap.size w1.heap.size w2.heap.size n va vc va' vc' (posV pre ++ [nV .i64 (sz (pre ++ [p]))]) xc' ls' W' → KK va' W') →
          RunV Try.prog (Builtin.append_ #[31, 31] 31 #[va, u]) W KK := by
        intro W u vc' xc' ls' KK hS' hu hK
        refine v_app elI hS'.oa hu (fun c hc => by simp at hc; subst hc; rfl) (by unfold maxLen; omega) (by omega) hS'.size fun va' W' g1 g2 g3 => ?_
        exact hK va' W' (Mod.grow hS'.oa g2) (hS'.appA rfl c3.size (by omega) (by omega) (by omega) g2 g1)
      have appC : ∀ (W : World) (u : Value) (va' : Value) (xa' : List Value) (KK : Value → World → Prop), ScF w w3.heap.size ll D (.loop (rec .busy none)) w.heap.size w1.heap.size w2.heap.size n va vc va' vc xa' xc pre W →
          W.ownsRow w3.heap.size 5 1 v' p.length (bytesV p) →
          Sl W 1 u 1 [v'] → (∀ vc' W', ScF w w3.heap.size ll D (.loop (rec .busy none)) w.heap.size w1.heap.size w2.heap.size n va vc va' vc' xa' (xc ++ [v']) (pre ++ [p]) W' → KK vc' W') →
          RunV Try.prog (Builtin.append_ #[28, 28] 28 #[vc, u]) W KK := by
        intro W u va' xa' KK hS' ho hu hK
        refine v_app elS hS'.oc hu (by simpa using hpv) (by unfold maxLen; omega) (by omega) hS'.size fun vc' W' g1 g2 g3 => ?_
        exact hK vc' W' (hS'.appC rfl c3.size (by omega) (by omega) (by omega) ho g2 g1)
      have nva : ∀ {W : World} {vc' : Value} {xc' : List Value} {ls' : List (List UInt8)} {b : Nat}, ScF w w3.heap.size ll D (.loop (rec .busy none)) w.heap.size w1.heap.size w2.heap.size n va vc va vc' (posV pre) xc' ls' W → ∀ k ∈ va.ownBlock.toList, ∀ {e : TypeId} {u : Value} {m : Nat} {xs : List Value}, e ≠ 3 → W.ownsRow b e 1 u m xs → u.ownBlock ≠ some k :=
        by intro W vc' xc' ls' b hS' k hk e u m xs hne ho; exact own_notOwn ho hS'.oa hne (mem_ownBlock.1 hk)
      refine ⟨?_, ?_, trivial⟩
      · refine v_lit1 elI rfl ?_
        have hS1 := hSd.alloc (.cells #[nV .i64 (sz (pre ++ [p]))] 3)
        have l1 := lit Wd 3 (nV .i64 (sz (pre ++ [p])))
        have o1 := ownd.alloc (.cells #[nV .i64 (sz (pre ++ [p]))] 3)
        generalize Wd.alloc (.cells #[nV .i64 (sz (pre ++ [p]))] 3) = Wa at *
        refine ⟨⟨hS1.ba, hS1.bc⟩, ?_, ?_, trivial⟩
        · refine appA Wa _ vc xc pre _ hS1 (Sl.of_own l1) fun va' W' mm hS2 => ⟨⟨hS2.ba, hS2.bc⟩, ?_⟩
          have o2 := mm.own o1 (fun k hk => nva hS1 k hk (by decide) o1)
          refine v_lit1 elS hpv ?_
          have hS3 := hS2.alloc (.cells #[v'] 22)
          refine ⟨⟨hS3.ba, hS3.bc⟩, ?_⟩
          exact appC _ _ va' _ _ hS3 (o2.alloc _) (Sl.of_own (lit W' 22 v')) fun vc' W'' hS4 => stores W'' va' vc' hS4
        · refine v_lit1 elS hpv ?_
          have hS3 := hS1.alloc (.cells #[v'] 22)
          refine ⟨⟨hS3.ba, hS3.bc⟩, ?_⟩
          have l2 := lit Wa 22 v'
          have l1' := l1.alloc (.cells #[v'] 22)
          have o3 := o1.alloc (.cells #[v'] 22)
          generalize Wa.alloc (.cells #[v'] 22) = Wc at *
          refine appA Wc _ vc xc pre _ hS3 (Sl.of_own l1') fun va' W' mm hS2 => ⟨⟨hS2.ba, hS2.bc⟩, ?_⟩
          have o4 := mm.own o3 (fun k hk => nva hS3 k hk (by decide) o3)
          have l4 := mm.own l2 (fun k hk => nva hS3 k hk (by decide) l2)
          exact appC _ _ va' _ _ hS2 o4 (Sl.of_own l4) fun vc' W'' hS4 => stores W'' va' vc' hS4
      · refine v_lit1 elS hpv ?_
        have hS1 := hSd.alloc (.cells #[v'] 22)
        have l2 := lit Wd 22 v'
        have o1 := ownd.alloc (.cells #[v'] 22)
        generalize Wd.alloc (.cells #[v'] 22) = Wa at *
        refine ⟨⟨hS1.ba, hS1.bc⟩, ?_⟩
        refine v_lit1 elI rfl ?_
        have hS3 := hS1.alloc (.cells #[nV .i64 (sz (pre ++ [p]))] 3)
        have l1 := lit Wa 3 (nV .i64 (sz (pre ++ [p])))
        have l2' := l2.alloc (.cells #[nV .i64 (sz (pre ++ [p]))] 3)
        have o3 := o1.alloc (.cells #[nV .i64 (sz (pre ++ [p]))] 3)
        generalize Wa.alloc (.cells #[nV .i64 (sz (pre ++ [p]))] 3) = Wc at *
        refine ⟨⟨hS3.ba, hS3.bc⟩, ?_⟩
        refine appA Wc _ vc xc pre _ hS3 (Sl.of_own l1) fun va' W' mm hS2 => ⟨⟨hS2.ba, hS2.bc⟩, ?_⟩
        have o4 := mm.own o3 (fun k hk => nva hS3 k hk (by decide) o3)
        have l4 := mm.own l2' (fun k hk => nva hS3 k hk (by decide) l2')
        exact appC _ _ va' _ _ hS2 o4 (Sl.of_own l4) fun vc' W'' hS4 => stores W'' va' vc' hS4
  · refine ⟨by simp; omega, .slice none 0 0, .slice none 0 0, [], ?_⟩
    exact ⟨cW, hW1.size, mW.boxed k1 (by simp), mW.boxed k2 (by simp), mW.boxed b3 (by simp), hL, hDD, own_nil, own_nil, Owns.nil⟩
  · rintro W ⟨hp, va, vc, xc, hS⟩
    refine Or.inl ⟨hS.loop, ?_⟩
    exact fin (recs l) W D va vc xc _ (by rw [List.take_of_length_le (by omega)]) hS rfl _
  · rintro pre W hat ⟨hp, va, vc, xc, hS⟩
    refine Or.inr ⟨.exit 0, hS.loop, ?_⟩
    refine fin pre W D va vc xc _ ?_ hS rfl _
    have := hat.2
    rw [← this, ← hp, List.take_left]

theorem scanned_all {v : Value} {b : Nat} {l : List UInt8} {w : World} {n : Int} {R : Value → World → Prop} (hb : Boxed w b 22 v) (hv : By w v l) (hl : l.length ≤ 1000000000)
    (h : ∀ va vc w' vs, w'.ownsRow w.heap.size 3 1 va ((recs l).take n.toNat).length (posV ((recs l).take n.toNat)) → w'.ownsRow w.heap.size 22 1 vc ((recs l).take n.toNat).length vs → Owns 5 w.heap.size w' vs ((recs l).take n.toNat) → Below w.heap.size w w' → R (.tuple #[va, vc]) w') :
    CallF Try.prog 15 #[.func (.func 32) #[] #[.pointer (some ⟨b, 0, none⟩)], .int .i64 n] w R := by
  refine scanned_spec hb hv hl (fun hn w8 b8 => ?_) fun hn va vc w8 vs pre hpre a1 a2 a3 b8 => ?_
  · have e0 : n.toNat = 0 := by omega
    rw [e0, List.take_zero] at h
    exact h _ _ w8 [] own_nil own_nil Owns.nil b8
  · subst hpre
    exact h va vc w8 vs a1 a2 a3 b8

end Go.Proofs.Ytknbnfpdcbpoeaa
