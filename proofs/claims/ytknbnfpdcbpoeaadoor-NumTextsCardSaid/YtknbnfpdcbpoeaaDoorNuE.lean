/-
  NumSums, NumVars: the walks.
-/
import Derived.Test.YtknbnfpdcbpoeaaDoorNuD
import Derived.Test.YtknbnfpdcbpoeaaDoorFrmQ
namespace Go.Ez
open Go Go.Lib
theorem crc1_xor (x y : Nat) : crc1 (x ^^^ y) = crc1 x ^^^ crc1 y := by
  have hd : (x ^^^ y) / 2 = x / 2 ^^^ y / 2 := by
    have := Nat.shiftRight_xor_distrib (a := x) (b := y) (i := 1)
    simpa [Nat.shiftRight_eq_div_pow] using this
  have hm : (x ^^^ y) % 2 = (x % 2) ^^^ (y % 2) := by
    have := Nat.xor_mod_two_pow (a := x) (b := y) (n := 1)
    simpa using this
  unfold crc1
  rw [hd, hm]
  have xs : ∀ a b p : Nat, a ^^^ p ^^^ (b ^^^ p) = a ^^^ b := fun a b p => by
    rw [Nat.xor_assoc a p, Nat.xor_comm b p, ← Nat.xor_assoc p p b, Nat.xor_self, Nat.zero_xor]
  rcases Nat.mod_two_eq_zero_or_one x with h1 | h1 <;> rcases Nat.mod_two_eq_zero_or_one y with h2 | h2
  · rw [h1, h2]; rfl
  · rw [h1, h2, if_pos (by decide), if_neg (by decide), if_pos rfl, Nat.xor_assoc]
  · rw [h1, h2, if_pos (by decide), if_pos rfl, if_neg (by decide), Nat.xor_assoc, Nat.xor_assoc, Nat.xor_comm (y / 2)]
  · rw [h1, h2, if_neg (by decide), if_pos rfl, if_pos rfl, xs]
theorem crcK_xor : ∀ (k x y : Nat), crcK k (x ^^^ y) = crcK k x ^^^ crcK k y
  | 0, _, _ => rfl
  | k + 1, x, y => by
    show crcK k (crc1 (x ^^^ y)) = crcK k (crc1 x) ^^^ crcK k (crc1 y)
    rw [crc1_xor, crcK_xor k]
def xor3 : Txt → Txt → Txt → Txt
  | a :: x, b :: y, c :: z => (a ^^^ b ^^^ c) :: xor3 x y z
  | _, _, _ => []
theorem xor4 (s t u a b c : Nat) : s ^^^ t ^^^ u ^^^ (a ^^^ b ^^^ c) = (s ^^^ a) ^^^ (t ^^^ b) ^^^ (u ^^^ c) := by
  apply Nat.eq_of_testBit_eq
  intro i
  simp only [Nat.testBit_xor]
  cases s.testBit i <;> cases t.testBit i <;> cases u.testBit i <;> cases a.testBit i <;> cases b.testBit i <;> cases c.testBit i <;> rfl
theorem crcS_xor : ∀ {a b c : Txt} {s t u : Nat}, b.length = a.length → c.length = a.length → crcS (xor3 a b c) (s ^^^ t ^^^ u) = crcS a s ^^^ crcS b t ^^^ crcS c u
  | [], [], [], _, _, _, _, _ => rfl
  | [], _ :: _, _, _, _, _, h, _ => by simp at h
  | [], [], _ :: _, _, _, _, _, h => by simp at h
  | _ :: _, [], _, _, _, _, h, _ => by simp at h
  | _ :: _, _ :: _, [], _, _, _, _, h => by simp at h
  | a :: x, b :: y, c :: z, s, t, u, h1, h2 => by
    have e : crcB (s ^^^ t ^^^ u) (a ^^^ b ^^^ c) = crcB s a ^^^ crcB t b ^^^ crcB u c := by
      unfold crcB
      rw [UInt8.toNat_xor, UInt8.toNat_xor, xor4, crcK_xor, crcK_xor]
    show crcS (xor3 x y z) (crcB (s ^^^ t ^^^ u) (a ^^^ b ^^^ c)) = crcS x (crcB s a) ^^^ crcS y (crcB t b) ^^^ crcS z (crcB u c)
    rw [e]
    exact crcS_xor (by simpa using h1) (by simpa using h2)
theorem crc_xor {a b c : Txt} (h1 : b.length = a.length) (h2 : c.length = a.length) : crc (xor3 a b c) = crc a ^^^ crc b ^^^ crc c := by
  have e : (4294967295 : Nat) = 4294967295 ^^^ 4294967295 ^^^ 4294967295 := by decide
  unfold crc
  have := crcS_xor (a := a) (b := b) (c := c) (s := 4294967295) (t := 4294967295) (u := 4294967295) h1 h2
  rw [← e] at this
  rw [this]
  conv => lhs; lhs; rw [e]
  exact xor4 _ _ _ _ _ _
theorem xor3_len : ∀ {a b c : Txt}, b.length = a.length → c.length = a.length → (xor3 a b c).length = a.length
  | [], [], [], _, _ => rfl
  | [], _ :: _, _, h, _ => by simp at h
  | [], [], _ :: _, _, h => by simp at h
  | _ :: _, [], _, h, _ => by simp at h
  | _ :: _, _ :: _, [], _, h => by simp at h
  | a :: x, b :: y, c :: z, h1, h2 => by
    show (xor3 x y z).length + 1 = x.length + 1
    rw [xor3_len (by simpa using h1) (by simpa using h2)]
theorem xor3_get : ∀ {a b c : Txt} {i : Nat} {x y z : UInt8}, a[i]? = some x → b[i]? = some y → c[i]? = some z → (xor3 a b c)[i]? = some (x ^^^ y ^^^ z)
  | [], _, _, _, _, _, _, h, _, _ => by simp at h
  | _ :: _, [], _, _, _, _, _, _, h, _ => by simp at h
  | _ :: _, _ :: _, [], _, _, _, _, _, _, h => by simp at h
  | a :: x, b :: y, c :: z, 0, _, _, _, h1, h2, h3 => by cases h1; cases h2; cases h3; rfl
  | a :: x, b :: y, c :: z, i + 1, _, _, _, h1, h2, h3 => xor3_get (a := x) (b := y) (c := z) (i := i) h1 h2 h3
theorem set_take {l m : Txt} {i : Nat} {x : UInt8} (hm : m.length = l.length) (h : l[i]? = some x) (ht : m.take i = l.take i) : (m.set i x).take (i + 1) = l.take (i + 1) := by
  have hi := (List.getElem?_eq_some_iff.1 h).1
  rw [List.take_add_one, List.take_add_one, h, List.getElem?_set_self (by omega), List.take_set_of_le (Nat.le_refl _), ht]
end Go.Ez
namespace Go.Proofs.YtknbnfpdcbpoeaaDoor
open Go Go.Ez Go.RowKit Go.Lib
set_option linter.unusedSimpArgs false
set_option linter.unusedVariables false
theorem le_u32 {n : Nat} (h : n < 4294967296) : (n : Int) ≤ IntKind.u32.max := by simp only [IntKind.max, IntKind.bits, IntKind.signed]; simp; omega
theorem bytesV_set (m : Txt) (i : Nat) (x : UInt8) : (bytesV m).set i (byteV x) = bytesV (m.set i x) := by unfold bytesV; rw [List.map_set]
theorem bytesV_at {m : Txt} {i : Nat} {x : UInt8} (h : m[i]? = some x) : (bytesV m)[i]? = some (byteV x) := by unfold bytesV; rw [List.getElem?_map, h]; rfl
theorem bytesV_zero (n : Nat) : bytesV (List.replicate n 0) = List.replicate n (.int .u8 0) := by unfold bytesV; rw [List.map_replicate]; rfl
section
variable {w0 W W' : World} {l R : List As} {RR : Value → World → Prop} {t s : Txt} {c : UInt8} {b n : Nat} {v : Value}
theorem ucopy_spec {p : Txt} (h : St w0 G0 l W) (hv : By W v p) (hl : p.length ≤ 140737488351232) (k : ∀ v' W', Cel1 v' → St w0 G0 (Ky v' (BO p) :: l) W' → RR v' W') : CallF Tryd.prog 15 #[v] W RR :=
  copyBytes_spec hv hl fun v' w' ho hb _ => k v' w' (.of_own ho) (h.newOw (B := W.heap.size) hb ho (Nat.le_refl _))
theorem xor_u8 (a b : UInt8) : nV .u8 (a.toNat ^^^ b.toNat) = byteV (a ^^^ b) := by unfold byteV; rw [UInt8.toNat_xor]
/-- hbllaw1.NumSums -/
theorem sums_spec {va vb vc : Value} {la lb lc : Txt} {a : Int} {x : UInt8} (hT : PowTab w0) (h : St w0 G0 l W) (hva : By w0 va la) (hvb : By w0 vb lb) (hvc : By w0 vc lc) (k : ∀ W', St w0 G0 l W' → RR (.bool true) W') :
    CallF Tryd.prog 5 #[va, vb, vc, .int .i64 a, byteV x] W RR := by
  refine sh5_calls ?_
  unfold sh5
  refine first1_spec hT h fun W h => ?_
  refine a_not (iff' ?_)
  refine x_lenS hva (a_gtr (ifd (fun _ => first1_spec hT h k) fun c1 => ?_))
  refine x_lenS hvb (x_lenS hva (w_neq (ifd (fun _ => first1_spec hT h k) fun c2 => ?_)))
  refine x_lenS hvc (x_lenS hva (w_neq (ifd (fun _ => first1_spec hT h k) fun c3 => ?_)))
  have hlb : lb.length = la.length := by omega
  have hlc : lc.length = la.length := by omega
  refine jni (fun vs W' => ∃ d t, vs = [va, vb, vc, .int .i64 a, byteV x, d, t] ∧ Cel1 d ∧ Cel1 t ∧ St w0 G0 (Ky t (BO la) :: Ky d (BO (List.replicate la.length 0)) :: l) W') ?_ ?_
  rotate_left
  · refine ⟨St w0 G0 l, h.drew, ?_⟩
    replace h := h.drew
    refine x_lenSs hva ⟨?_, ?_, trivial⟩
    · refine h.make (n := la.length) (by omega) (by unfold maxLen; omega) fun d W od h => ?_
      refine ucopy_spec h (hva.below h.low) (by omega) fun t W ot h => ?_
      refine ⟨d, t, rfl, od, ot, ?_⟩
      rw [← bytesV_zero] at h
      unfold BO
      rw [List.length_replicate]
      exact h.to
    · refine ucopy_spec h (hva.below h.low) (by omega) fun t W ot h => ⟨h.to, ?_⟩
      refine h.make (n := la.length) (by omega) (by unfold maxLen; omega) fun d W od h => ?_
      refine ⟨d, t, rfl, od, ot, ?_⟩
      rw [← bytesV_zero] at h
      unfold BO
      rw [List.length_replicate]
      exact h.to
  clear h
  rintro vs W1 _ ⟨d, t, rfl, od, ot, h⟩
  refine app7 ?_
  have hx3 := xor3_len (a := la) (b := lb) (c := lc) hlb hlc
  refine lpx (α := Nat × Txt) (fun A => [nV .i64 A.1]) (fun A W' => A.1 ≤ la.length ∧ A.2.length = la.length ∧ A.2.take A.1 = (xor3 la lb lc).take A.1 ∧ St w0 G0 (Ky t (BO la) :: Ky d (BO A.2) :: l) W') (fun A => la.length - A.1) (0, List.replicate la.length 0) (fun _ => rfl) rfl ⟨Nat.zero_le _, List.length_replicate, rfl, h⟩ ?_
  clear h
  rintro next ⟨i, m⟩ W1 hnext ⟨h1, h2, h3, h⟩
  simp only at h1 h2 h3 h
  refine app1 ?_
  refine x_lenS hva (a_lss (ifd (fun hc => ?_) fun hc => ?_))
  · have hi : i < la.length := by dsimp only at hc; omega
    have ga : la[i]? = some la[i] := List.getElem?_eq_getElem hi
    have gb : lb[i]? = some (lb[i]'(by omega)) := List.getElem?_eq_getElem (by omega)
    have gc : lc[i]? = some (lc[i]'(by omega)) := List.getElem?_eq_getElem (by omega)
    generalize la[i] = ca at ga
    generalize lb[i]'(by omega) = cb at gb
    generalize lc[i]'(by omega) = cc at gc
    refine ⟨St w0 G0 (Ky t (BO la) :: Ky d (BO m) :: l), h.drew, ?_⟩
    replace h := h.drew
    refine x_sat hva (fun w hw => hva.below hw.low) (bytesV_at ga) ?_
    refine x_sat hvb (fun w hw => hvb.below hw.low) (bytesV_at gb) ?_
    refine a_xorN (n := ca.toNat) (m := cb.toNat) (le_u8 (UInt8.toNat_lt _)) (le_u8 (UInt8.toNat_lt _)) ?_
    rw [xor_u8]
    refine x_sat hvc (fun w hw => hvc.below hw.low) (bytesV_at gc) ?_
    refine a_xorN (n := (ca ^^^ cb).toNat) (m := cc.toNat) (le_u8 (UInt8.toNat_lt _)) (le_u8 (UInt8.toNat_lt _)) ?_
    rw [xor_u8]
    refine h.setAt (v := d) (x := byteV (ca ^^^ cb ^^^ cc)) (by omega) fun W h => ?_
    rw [bytesV_set] at h
    refine a_add64 (by omega) (by omega) ⟨rfl, rfl, rfl, rfl, rfl, rfl, rfl, ?_⟩
    rw [show ((i : Int) + 1) = ((i + 1 : Nat) : Int) by push_cast; rfl]
    refine hnext (i + 1, m.set i (ca ^^^ cb ^^^ cc)) _ (by simp only; omega) ⟨by simp only; omega, by simp only; rw [List.length_set]; exact h2, ?_, ?_⟩
    · exact set_take (by omega) (xor3_get ga gb gc) h3
    · show St w0 G0 (Ky t (BO la) :: Ky d (Ow 5 1 (m.set i (ca ^^^ cb ^^^ cc)).length (bytesV (m.set i (ca ^^^ cb ^^^ cc)))) :: l) W
      rw [List.length_set]
      exact h.to
  · have hi : i = la.length := by dsimp only at hc; omega
    subst hi
    rw [List.take_of_length_le (by omega), List.take_of_length_le (by omega)] at h3
    subst h3
    clear hc h1
    refine crc_spec (h.osl (v := d)) (by omega) ?_
    refine crc_spec (hva.below h.low) (by omega) (crc_spec (hvb.below h.low) (by omega) ?_)
    refine a_xorN (le_u32 (crc_lt _)) (le_u32 (crc_lt _)) (crc_spec (hvc.below h.low) (by omega) ?_)
    refine a_xorN (le_u32 (Nat.xor_lt_two_pow (n := 32) (crc_lt _) (crc_lt _))) (le_u32 (crc_lt _)) ?_
    rw [crc_xor hlb hlc]
    refine w_neq (ifd_neg (by simp) ?_)
    refine a_lss (ifd (fun _ => first1_spec hT (h.to (l' := l)) k) fun g1 => ?_)
    refine x_lenS hva (a_geq (ifd (fun _ => first1_spec hT (h.to (l' := l)) k) fun g2 => ?_))
    refine x_eqB (b := 0) (ifd (fun _ => first1_spec hT (h.to (l' := l)) k) fun g3 => ?_)
    obtain ⟨p, rfl⟩ := Int.eq_ofNat_of_zero_le (show 0 ≤ a by omega)
    have hp : p < la.length := by omega
    have ga : la[p]? = some la[p] := List.getElem?_eq_getElem hp
    refine x_at (h.osl (v := t)) (bytesV_at ga) ?_
    refine a_xorN (n := la[p].toNat) (m := x.toNat) (le_u8 (UInt8.toNat_lt _)) (le_u8 (UInt8.toNat_lt _)) ?_
    rw [xor_u8]
    refine h.setAt (v := t) (x := byteV (la[p] ^^^ x)) hp fun W h => ?_
    rw [bytesV_set] at h
    refine first1_spec hT h fun W h => ift ?_
    have hs := h.osl (v := t)
    have e : la.length = (la.set p (la[p] ^^^ x)).length := by rw [List.length_set]
    rw [e] at hs
    refine crc_spec (v := t) (l := la.set p (la[p] ^^^ x)) hs (by rw [List.length_set]; omega) ?_
    refine crc_spec (hva.below h.low) (by omega) (w_neq ?_)
    have hne : ¬ (crc (la.set p (la[p] ^^^ x)) = crc la) := fun hcrc => by
      rw [set_split hp] at hcrc
      conv at hcrc => rhs; rw [split_at hp]
      have h5 := crc_one hcrc
      have h6 := congrArg UInt8.toNat h5
      rw [UInt8.toNat_xor] at h6
      have h7 : la[p].toNat ^^^ x.toNat = la[p].toNat ^^^ 0 := by rw [h6, Nat.xor_zero]
      have h8 := xor_left_inj h7
      exact g3 (UInt8.toNat_inj.1 h8)
    have hb : decide ((crc (la.set p (la[p] ^^^ x)) : Int) ≠ (crc la : Int)) = true := decide_eq_true (by omega)
    rw [hb]
    exact k W h.to
end
end Go.Proofs.YtknbnfpdcbpoeaaDoor
