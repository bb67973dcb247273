/-
  FRAMES: what the chapter's examples fix; a record by the program, by the document.
-/
import Derived.Test.YtknbnfpdcbpoeaaFrmG
namespace Go.Proofs.Ytknbnfpdcbpoeaa
open Go Go.Ez Go.RowKit
set_option linter.unusedSimpArgs false
set_option linter.unusedVariables false

theorem fput_all {v : Value} {l : List UInt8} {w : World} {R : Value → World → Prop} (hv : By w v l) (hl : l.length ≤ 70368744175616)
    (h : ∀ v' w', By w' v' (frB l) → Below w.heap.size w w' → R (.tuple #[v', nV .i64 (frE l)]) w') : CallF Try.prog 11 #[v] w R := by
  refine fput_spec hv hl (fun hc => ?_) fun hc v' w' h1 h2 => ?_
  · have := h (.slice none 0 0) w (by unfold frB; rw [if_pos hc]; exact Sl.nil w 1) (Below.refl _ _)
    unfold frE at this; rw [if_pos hc] at this; exact this
  · have := h v' w' (by unfold frB; rw [if_neg (by omega)]; exact Sl.of_own h1) h2
    unfold frE at this; rw [if_neg (by omega)] at this; exact this
theorem rput_all {v : Value} {l : List UInt8} {w : World} {R : Value → World → Prop} (hv : By w v l) (hl : l.length ≤ 70368744175616)
    (h : ∀ v' w', By w' v' (frB l) → Below w.heap.size w w' → R (.tuple #[v', nV .i64 (frE l)]) w') : CallF Try.prog 12 #[v] w R := by
  refine rput_spec hv hl (fun hc => ?_) fun hc v' w' h1 h2 => ?_
  · have := h (.slice none 0 0) w (by unfold frB; rw [if_pos hc]; exact Sl.nil w 1) (Below.refl _ _)
    unfold frE at this; rw [if_pos hc] at this; exact this
  · have := h v' w' (by unfold frB; rw [if_neg (by omega)]; exact Sl.of_own h1) h2
    unfold frE at this; rw [if_neg (by omega)] at this; exact this

/-- hbllaw9.first -/
theorem first_spec {w : World} {R : Value → World → Prop} (h : ∀ w', Below w.heap.size w w' → R (.bool true) w') : CallF Try.prog 9 #[] w R := by
  refine sh9_calls ?_
  unfold sh9
  refine v_lit1 elB rfl ?_
  have b1 : Below w.heap.size w (w.alloc (.cells #[byteV 1] 5)) := (Below.refl _ w).alloc (Nat.le_refl _) _
  have o1 : By (w.alloc (.cells #[byteV 1] 5)) (.slice (some ⟨w.heap.size, 0, none⟩) 1 1) [1] := Sl.of_own (own_lit (base := 0) (cs := [byteV 1]) (Nat.zero_le _) rfl (by unfold maxLen; omega))
  refine fput_spec o1 (by decide) (fun hc => absurd hc (by decide)) fun _ x w2 x1 x2 => ?_
  refine a_ext0 (a_ext1 ?_)
  have hxl : (fr [1]).length = 7 := fr_length _
  have b2 := Below.next b1 x2
  refine copyBytes_spec (Sl.of_own x1) (by rw [hxl]; decide) fun y w3 y1 y2 _ => ?_
  have b3 := Below.next b2 y2
  refine v_push elB y1 rfl (by rw [hxl]; unfold maxLen; omega) (by rw [hxl]; omega) y2.size fun z w4 z1 z2 _ => ?_
  have z3 := Sl.of_own z1
  have e9 : bytesV (fr [1]) ++ [.int .u8 9] = bytesV (fr [1] ++ [9]) := by rw [bytesV_append]; rfl
  rw [e9] at z3
  have b4 : Below w.heap.size w w4 := b3.grown z2 b3.size (fun k hk => by have := own_base y1 k hk; have := b2.size; omega)
  have hrec : recs (fr [1] ++ [9]) = [[1]] := by rw [recs_fr (by decide), recs_none (nx_short (by decide))]
  refine fall_spec (l := fr [1] ++ [9]) (by unfold By; rw [List.length_append]; exact z3) (by rw [List.length_append, hxl]; decide) fun v' w5 vs v1 v2 v3 => ?_
  refine a_ext0 (a_ext1 ?_)
  rw [hrec] at v1 ⊢
  refine w_eql (ift' rfl ?_)
  refine w_lenS Try.underlying22 (Sl.of_own x1) ?_
  rw [hxl]
  refine w_eql (ift' rfl ?_)
  refine w_lenS Try.underlying28 (Sl.of_own v1) ?_
  refine w_eql (ift' rfl ?_)
  refine w_eql ?_
  exact h w5 (Below.next b4 v3)

/-- bytes of records turned -/
theorem bump_round {v : Value} {vs : List Value} {ls : List (List UInt8)} {B : Nat} {W : World} {R : World → Prop} {i q : Nat} {x : Value} {xl : List UInt8} {n : Nat}
    (h1 : W.ownsRow B 22 1 v n vs) (h2 : OwnsN 5 B W vs ls) (hx : vs[i]? = some x) (hl : ls[i]? = some xl) (hq : q < xl.length)
    (h : ∀ g W', B ≤ g → Mod [g] W W' → W'.ownsRow B 22 1 v n vs → OwnsN 5 B W' vs ls → R W') :
    RunA Try.prog (Instr.indexAt 22 x (nV .i64 q)) fun a => RunW Try.prog (Instr.loadAt 5 a) W fun u => RunA Try.prog (bin .add 5 (.tmp 121) (.const (.int .u8 1)) u (.int .u8 1)) fun y =>
      RunA Try.prog (Instr.indexAt 22 x (nV .i64 q)) fun a' => RunU Try.prog (Instr.storeAt 5 a' y) W R := by
  obtain ⟨xl', hlen, ho⟩ := h2.2 i x xl hx hl
  refine own_setCell elB ho hq fun g hg hc hf => ?_
  obtain ⟨b, hb⟩ : ∃ b, xl'[q]? = some b := ⟨_, List.getElem?_eq_getElem (by omega)⟩
  have hcell := hc (byteV b) (by rw [bytesV, List.getElem?_map, hb]; rfl)
  refine w_load Try.isAgg5 hcell ?_
  refine a_add ?_
  have e : IntKind.u8.wrap ((b.toNat : Int) + 1) = ((UInt8.ofNat (b.toNat + 1)).toNat : Int) := by
    simp only [IntKind.wrap, IntKind.bits, IntKind.signed, UInt8.toNat_ofNat']
    simp
  rw [e]
  refine own_setCell elB ho hq fun g' hg' _ _ => ?_
  rw [hg] at hg'
  cases hg'
  refine u_store Try.isAgg5 Try.sizeOf5 rfl hcell hf ?_
  have m : Mod [g] W (W.setCell ⟨g, q, none⟩ (byteV (UInt8.ofNat (b.toNat + 1)))) := Mod.of_grown (grownBy_setAt W g q _)
  refine h g _ (own_base ho g hg) m (m.own h1 fun k hk => ?_) ⟨h2.1, fun j y yl hy hyl => ?_⟩
  · rw [List.mem_singleton] at hk
    subst hk
    exact own_notOwn h1 ho (by decide) hg
  · obtain ⟨yl', hl', hoy⟩ := h2.2 j y yl hy hyl
    obtain ⟨yl'', hl'', hoy'⟩ := own_setByte hoy ho hg (q := q) (UInt8.ofNat (b.toNat + 1))
    exact ⟨yl'', hl''.trans hl', hoy'⟩

/-- hbllaw9.FrameReads -/
theorem reads_spec {vp vb : Value} {lp lb : List UInt8} {n : Int} {w : World} {R : Value → World → Prop} (hp : By w vp lp) (hb : By w vb lb) (h : ∀ w', Below w.heap.size w w' → R (.bool true) w') :
    CallF Try.prog 3 #[vp, vb, .int .i64 n] w R := by
  refine sh3_calls ?_
  unfold sh3
  refine first_spec fun w1 b1 => ?_
  refine a_not (iff' ?_)
  refine w_lenS Try.underlying22 hp ?_
  refine a_gtr (ifd (fun _ => first_spec fun w2 b2 => h w2 (Below.next b1 b2)) fun hc1 => ?_)
  refine w_lenS Try.underlying22 hb ?_
  refine a_gtr (ifd (fun _ => first_spec fun w2 b2 => h w2 (Below.next b1 b2)) fun hc2 => ?_)
  refine copyBytes_spec (hb.below b1) (by omega) fun vi w2 i1 i2 _ => ?_
  have b2 := Below.next b1 i2
  refine fput_all (hp.below b2) (by omega) fun vx w3 x1 x2 => ?_
  refine a_ext0 (a_ext1 ?_)
  have b3 := Below.next b2 x2
  refine rput_all (hp.below b3) (by omega) fun vy w4 y1 y2 => ?_
  refine a_ext0 (a_ext1 ?_)
  have b4 := Below.next b3 y2
  have hin := ((Sl.of_own i1).below x2).below y2
  refine fall_spec hin (by omega) fun vl w5 us u1 u2 u3 => ?_
  refine a_ext0 (a_ext1 ?_)
  have b5 := Below.next b4 u3
  refine rall_spec (hb.below b5) (by omega) fun vm w6 ms m1 m2 m3 => ?_
  refine a_ext0 (a_ext1 ?_)
  have b6 := Below.next b5 m3
  have c6 := Below.next u3 m3
  refine scan_spec (hin.below c6) fun w7 z7 bx b7' => ?_
  have b7 := Below.next b6 b7'
  have c7 := Below.next c6 b7'
  have hm1 := (Sl.of_own m1).below b7'
  have hm2 := m2.bs.below b7'
  refine scanned_all bx (hin.below c7) (by omega) fun va vc w8 vs a1 a2 a3 b8' => ?_
  have b8 := Below.next b7 b8'
  have c8 := Below.next c7 b8'
  refine a_ext0 (a_ext1 ?_)
  refine w_max ?_
  refine w_lenS Try.underlying28 hm1 ?_
  refine w_min ?_
  generalize hd : min (max n 0) ((recs lb).length : Int) = d
  obtain ⟨d, rfl⟩ := Int.eq_ofNat_of_zero_le (show 0 ≤ d by omega)
  have htake : (recs lb).take n.toNat = (recs lb).take d := by
    by_cases hx : n.toNat ≤ (recs lb).length
    · have : n.toNat = d := by omega
      rw [this]
    · rw [List.take_of_length_le (by omega), List.take_of_length_le (by omega)]
  have hdl : ((recs lb).take d).length = d := by rw [List.length_take]; omega
  rw [htake] at a1 a2 a3
  rw [hdl] at a1 a2
  have hat := recs_at lb
  have hreclen := hat.len
  refine a_sliceH elS hm1 (by omega) (by omega) fun vmd hmd => ?_
  rw [Int.toNat_natCast, Nat.mul_one] at hmd
  refine lists_spec (ls := (recs lb).take d) (ms := (recs lb).take d) (a3.bs.ls (by rw [hdl]; exact Sl.of_own a2)) (((hm2.take d).below b8').ls (by rw [hdl]; exact hmd.below b8')) (by omega) fun w9 b9' => ?_
  rw [decide_eq_true rfl]
  refine a_not (iff' ?_)
  refine w_lenS Try.underlying31 (Sl.of_own a1) ?_
  refine w_neq (ifd_neg (by omega) ?_)
  have b9 := Below.next b8 b9'
  have c9 := Below.next c8 b9'
  have hm9 := (hm1.below b8').below b9'
  have hmb9 := (hm2.below b8').below b9'
  have ha9 := (Sl.of_own a1).below b9'
  -- the places
  refine lpx (α := Nat) (fun i => [nV .i64 (sz ((recs lb).take i)), nV .i64 i]) (fun i W => W = w9 ∧ i ≤ d) (fun i => d - i) 0 (fun _ => rfl) rfl ⟨rfl, Nat.zero_le _⟩ ?_
  rintro next i W hnext ⟨rfl, hi⟩
  refine app2 ?_
  refine w_lenS Try.underlying31 ha9 ?_
  refine a_lss (ifd (fun hc => ?_) fun hc => ?_)
  · have hid : i < d := by omega
    have hir : i < (recs lb).length := by omega
    have hri := List.getElem?_eq_getElem hir
    have hszi : sz ((recs lb).take (i + 1)) = sz ((recs lb).take i) + (6 + (recs lb)[i].length) := by rw [take_snoc hri, sz_snoc]
    have hszle : sz ((recs lb).take (i + 1)) ≤ lb.length := Nat.le_trans (sz_take_le _ _) hat.1
    refine a_add64 (by omega) (by omega) ?_
    refine w_at elS Try.isAgg22 hm9 hir fun u hu => ?_
    have hui := hmb9.2 i u _ hu hri
    refine w_lenS Try.underlying22 hui ?_
    refine a_add64 (by omega) (by omega) ?_
    refine w_at elI Try.isAgg3 ha9 hid fun u hu => ?_
    have hpu : u = nV .i64 (sz ((recs lb).take (i + 1))) := by
      unfold posV at hu
      rw [List.getElem?_map, hdl, List.getElem?_range hid] at hu
      simp only [Option.map_some, Option.some.injEq] at hu
      rw [← hu, List.take_take, Nat.min_eq_left (by omega)]
    subst hpu
    refine w_neq (ifd_neg (by rw [hszi]; omega) ?_)
    refine a_add64 (by omega) (by omega) ⟨rfl, rfl, rfl, rfl, rfl, rfl, rfl, rfl, rfl, rfl, rfl, ?_⟩
    have e1 : ((sz ((recs lb).take i) : Nat) : Int) + 6 + (((recs lb)[i].length : Nat) : Int) = ((sz ((recs lb).take (i + 1)) : Nat) : Int) := by rw [hszi]; push_cast; omega
    have e2 : ((i : Int) + 1) = ((i + 1 : Nat) : Int) := by push_cast; rfl
    rw [e1, e2]
    exact hnext (i + 1) W (by omega) ⟨rfl, by omega⟩
  · -- the bytes of the records turned: what was there before them stays
    have hus := (ownsRow_ext (ownsRow_ext (ownsRow_ext (ownsRow_ext u1 m3) b7') b8') b9')
    have huo := (u2.mod (Mod.of_below (ks := []) (Below.next (Below.next (Below.next m3 b7') b8') b9')) (by simp)).n
    have hul := u2.1
    refine lpx (α := Nat) (fun i => [nV .i64 i]) (fun i W' => i ≤ (recs lb).length ∧ Below w4.heap.size W W' ∧ W'.ownsRow w4.heap.size 22 1 vl (recs lb).length us ∧ OwnsN 5 w4.heap.size W' us (recs lb)) (fun i => (recs lb).length - i) 0 (fun _ => rfl) rfl ⟨Nat.zero_le _, Below.refl _ _, hus, huo⟩ ?_
    rintro next2 i2 W2 hnext2 ⟨g1, g2, g3, g4⟩
    refine app1 ?_
    refine w_lenS Try.underlying28 (Sl.of_own g3) ?_
    refine a_lss (ifd (fun hc => ?_) fun hc => ?_)
    · have hir : i2 < (recs lb).length := by omega
      have hri := List.getElem?_eq_getElem hir
      have hrl : (recs lb)[i2].length ≤ lb.length := Nat.le_trans (Nat.le_trans (len_le_sz hri) (Nat.le_refl _)) hat.1
      refine lpx (α := Nat) (fun q => [nV .i64 q]) (fun q W' => q ≤ (recs lb)[i2].length ∧ Below w4.heap.size W W' ∧ W'.ownsRow w4.heap.size 22 1 vl (recs lb).length us ∧ OwnsN 5 w4.heap.size W' us (recs lb)) (fun q => (recs lb)[i2].length - q) 0 (fun _ => rfl) rfl ⟨Nat.zero_le _, g2, g3, g4⟩ ?_
      rintro next3 q W3 hnext3 ⟨k1, k2, k3, k4⟩
      refine app1 ?_
      refine w_at elS Try.isAgg22 (Sl.of_own k3) hir fun u hu => ?_
      obtain ⟨ul, hul1, hul2⟩ := k4.2 i2 u _ hu hri
      refine w_lenS Try.underlying22 (Sl.of_own hul2) ?_
      refine a_lss (ifd (fun hc => ?_) fun hc => ?_)
      · have hq : q < (recs lb)[i2].length := by omega
        refine w_at elS Try.isAgg22 (Sl.of_own k3) hir fun u' hu' => ?_
        rw [hu] at hu'
        cases hu'
        refine bump_round k3 k4 hu hri hq fun g W4 hg mg j3 j4 => ?_
        refine a_add64 (by omega) (by omega) ⟨rfl, rfl, rfl, rfl, rfl, rfl, rfl, rfl, rfl, rfl, rfl, ?_⟩
        have e2 : ((q : Int) + 1) = ((q + 1 : Nat) : Int) := by push_cast; rfl
        rw [e2]
        refine hnext3 (q + 1) W4 (by omega) ⟨by omega, mg.below k2 (by have := c9.size; omega) (by simpa using hg), j3, j4⟩
      · refine a_add64 (by omega) (by omega) ⟨rfl, rfl, rfl, rfl, rfl, rfl, rfl, rfl, rfl, rfl, ?_⟩
        have e2 : ((i2 : Int) + 1) = ((i2 + 1 : Nat) : Int) := by push_cast; rfl
        rw [e2]
        exact hnext2 (i2 + 1) W3 (by omega) ⟨by omega, k2, k3, k4⟩
    · have cA : Below w4.heap.size w4 W2 := c9.trans g2
      have bA : Below w.heap.size w W2 := b9.trans (g2.mono b4.size)
      refine first_spec fun wf bf => ?_
      refine ift ?_
      have cf := Below.next cA bf
      have bf' := Below.next bA bf
      refine bytes_spec ((x1.below y2).below cf) (y1.below cf) ?_
      rw [decide_eq_true rfl]
      refine ift ?_
      refine w_eql (ifd_pos rfl ?_)
      refine w_lenS Try.underlying28 (Sl.of_own u1) ?_
      refine w_lenS Try.underlying28 hm1 ?_
      refine w_eql (ifd_pos rfl ?_)
      refine w_eql (ifd_pos rfl ?_)
      refine bytes_spec (hin.below cf) (hb.below bf') ?_
      rw [decide_eq_true rfl]
      exact h wf bf'

end Go.Proofs.Ytknbnfpdcbpoeaa
