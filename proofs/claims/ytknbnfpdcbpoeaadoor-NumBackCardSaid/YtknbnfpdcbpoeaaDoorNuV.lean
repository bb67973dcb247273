/-
  NumVars: the walk.
-/
import Derived.Test.YtknbnfpdcbpoeaaDoorNuE
namespace Go.Proofs.YtknbnfpdcbpoeaaDoor
open Go Go.Ez Go.RowKit Go.Lib
set_option linter.unusedSimpArgs false
set_option linter.unusedVariables false
section
variable {w0 W W' : World} {l R : List As} {RR : Value → World → Prop} {t s : Txt} {c : UInt8} {b n : Nat} {v : Value}
theorem varR_iff (n : Int) : (varR n).2 = 0 ↔ (0 ≤ n ∧ n < 72057594037927936) := by
  unfold varR
  constructor
  · intro h; split at h
    · assumption
    · cases h
  · intro h; rw [if_pos h]
theorem varR_pos {n : Int} (h : (varR n).2 = 0) : 1 ≤ (varR n).1.length := by
  obtain ⟨_, _, e⟩ := varR_ok h
  rw [e]
  exact vrF_pos (k := 7)
/-- '(e == OK) == (n >= 0 && n < 1<<56) && ..' -/
theorem pairA {n : Int} {X0 Y0 X1 Y1 X2 Y2 X3 Y3 X4 Y4 : Operand} {X F : Prop} (h : X) :
    RunW Tryd.prog (bin .eql 26 X0 Y0 (nV .i64 (varR n).2) (.int .i64 0)) W fun t53 => RunA Tryd.prog (bin .geq 3 X1 Y1 (.int .i64 n) (.int .i64 0)) fun t55 =>
      IfB t55 (RunA Tryd.prog (bin .lss 3 X2 Y2 (.int .i64 n) (.int .i64 72057594037927936)) fun t58 => RunW Tryd.prog (bin .eql 4 X3 Y3 t53 t58) W fun t60 => IfB t60 X F)
        (RunW Tryd.prog (bin .eql 4 X4 Y4 t53 (.bool false)) W fun t60 => IfB t60 X F) := by
  have hi := varR_iff n
  refine w_eql (a_geq (ifd (fun c1 => a_lss (x_eqb ?_)) fun c1 => x_eqb ?_))
  · have : (decide (((varR n).2 : Int) = 0) == decide (n < 72057594037927936)) = true := by
      have e : decide (((varR n).2 : Int) = 0) = decide (n < 72057594037927936) := decide_eq_decide.2 (by constructor <;> intro hh <;> omega)
      rw [e]; exact beq_self_eq_true _
    rw [this]; exact ift h
  · have : (decide (((varR n).2 : Int) = 0) == false) = true := by
      rw [decide_eq_false (by omega)]; rfl
    rw [this]; exact ift h
theorem pairB {n : Int} {u : Value} {X0 Y0 X1 Y1 : Operand} {X F : Prop} {q : Txt} (hu : By W u q) (hq : q = (varR n).1) (h : X) :
    RunW Tryd.prog (bin .neq 26 X0 Y0 (nV .i64 (varR n).2) (.int .i64 0)) W fun t75 => IfB t75 X (RunW Tryd.prog (Builtin.len_ #[25] 3 #[u]) W fun t78 => RunA Tryd.prog (bin .gtr 3 X1 Y1 t78 (.int .i64 0)) fun t79 => IfB t79 X F) := by
  refine w_neq (ifd (fun _ => h) fun e => ?_)
  have := varR_pos (n := n) (by omega)
  refine x_lenS hu (a_gtr (ifd_pos (by rw [hq]; omega) h))
theorem pairC {n : Int} {u : Value} {X0 Y0 X1 Y1 : Operand} {q : Txt} (hu : By W u q) (hq : q = (varR n).1) (h : RR (.bool true) W) :
    RunW Tryd.prog (bin .neq 26 X0 Y0 (nV .i64 (varR n).2) (.int .i64 0)) W fun t84 => IfB t84 (RR (.bool true) W) (RunW Tryd.prog (Builtin.len_ #[25] 3 #[u]) W fun t87 => RunA Tryd.prog (bin .gtr 3 X1 Y1 t87 (.int .i64 0)) fun t88 => RR t88 W) := by
  refine w_neq (ifd (fun _ => h) fun e => ?_)
  have := varR_pos (n := n) (by omega)
  refine x_lenS hu (a_gtr ?_)
  rw [decide_eq_true (by rw [hq]; omega)]
  exact h
/-- hbllaw1.NumVars -/
theorem vars_spec {a b cut : Int} (hT : PowTab w0) (h : St w0 G0 l W) (ha : a ≤ 9223372036854775807) (hb : b ≤ 9223372036854775807) (k : ∀ W', St w0 G0 l W' → RR (.bool true) W') :
    CallF Tryd.prog 6 #[.int .i64 a, .int .i64 b, .int .i64 cut] W RR := by
  refine sh6_calls ?_
  unfold sh6
  refine first1_spec hT h fun W h => ?_
  refine a_not (iff' ?_)
  refine var_spec h ha fun u W ou h => a_ext0 (a_ext1 ?_)
  refine var_spec h hb fun v W ov h => a_ext0 (a_ext1 ?_)
  have hu : By W u (varR a).1 := h.osl (v := u)
  have hv : By W v (varR b).1 := h.osl (v := v)
  refine jni (fun vs W' => ∃ bad : Bool, vs = [.int .i64 a, .int .i64 b, .int .i64 cut, u, nV .i64 (varR a).2, v, nV .i64 (varR b).2, .bool bad] ∧ (bad = false → (varR a).2 = 0 ∧ (varR b).2 = 0 ∧ 0 ≤ cut) ∧ W' = W) ?_ ?_
  rotate_left
  · have out : ∃ bad : Bool, ([.int .i64 a, .int .i64 b, .int .i64 cut, u, nV .i64 (varR a).2, v, nV .i64 (varR b).2, .bool true] : List Value) = [.int .i64 a, .int .i64 b, .int .i64 cut, u, nV .i64 (varR a).2, v, nV .i64 (varR b).2, .bool bad] ∧ (bad = false → (varR a).2 = 0 ∧ (varR b).2 = 0 ∧ 0 ≤ cut) ∧ W = W := ⟨true, rfl, (fun h => by cases h), rfl⟩
    refine w_neq (ifd (fun _ => out) fun e1 => ?_)
    refine w_neq (ifd (fun _ => out) fun e2 => ?_)
    refine a_lss (ifd (fun _ => out) fun e3 => ?_)
    refine x_lenS hu (a_lss (ifd (fun _ => out) fun e4 => ?_))
    refine x_lenS hv (a_lss ?_)
    exact ⟨_, rfl, fun _ => ⟨by omega, by omega, by omega⟩, rfl⟩
  rintro vs W1 _ ⟨bad, rfl, hbad, rfl⟩
  refine app8 ?_
  refine ifb (fun _ => ?_) fun e => ?_
  · refine first1_spec hT h fun W h => ift ?_
    have hu : By W u (varR a).1 := h.osl (v := u)
    have hv : By W v (varR b).1 := h.osl (v := v)
    exact pairA (pairA (pairB hu rfl (pairC hv rfl (k W h.to))))
  obtain ⟨ea, eb, hc0⟩ := hbad e
  obtain ⟨a1, a2, a3⟩ := varR_ok ea
  obtain ⟨b1, b2, b3⟩ := varR_ok eb
  obtain ⟨c, rfl⟩ := Int.eq_ofNat_of_zero_le hc0
  rw [a3] at hu h
  rw [b3] at hv h
  obtain ⟨na, rfl⟩ := Int.eq_ofNat_of_zero_le a1
  obtain ⟨nb, rfl⟩ := Int.eq_ofNat_of_zero_le b1
  rw [Int.toNat_natCast] at hu hv h
  have hpa : 1 ≤ (vr na).length := vrF_pos (k := 7)
  have hla : (vr na).length ≤ 8 := vrF_len
  have hlb : (vr nb).length ≤ 8 := vrF_len
  clear ea eb hbad e
  refine jni (fun vs W' => vs = [nV .i64 c, u] ∧ St w0 G0 (Ky v (BO (vr nb)) :: Ky u (BO (vr na)) :: l) W') ?_ ?_
  rotate_left
  · refine ⟨St w0 G0 (Ky v (BO (vr nb)) :: Ky u (BO (vr na)) :: l), h.drew, ?_⟩
    replace h := h.drew
    refine s_neq (ifd (fun hne => ?_) fun _ => ⟨rfl, h⟩)
    refine x_lenSs hu (x_lenSs hv (a_leq (ifd (fun hle => ?_) fun _ => ⟨rfl, h⟩)))
    have hle' : (vr na).length ≤ (vr nb).length := by omega
    refine x_lenSs hu ?_
    refine x_cutOw (v := v) h hle' ?_
    have cutBy : ∀ w, St w0 G0 (Ky v (BO (vr nb)) :: Ky u (BO (vr na)) :: l) w → By w (cutV v (vr na).length) ((vr nb).take (vr na).length) := fun w hw => by
      have := (hw.cutOw (v := v) hle').osl (v := cutV v (vr na).length)
      rw [Nat.mul_one] at this
      have e1 : (bytesV (vr nb)).take (vr na).length = bytesV ((vr nb).take (vr na).length) := by unfold bytesV; rw [List.map_take]
      have e2 : (vr na).length = ((vr nb).take (vr na).length).length := by rw [List.length_take]; omega
      rw [e1] at this
      unfold By
      rw [← e2]
      exact this
    refine ss_str cutBy ?_
    refine ss_str (fun w hw => (hw.osl (v := u) : By w u (vr na))) ?_
    refine s_eqlL (ifd (fun heq => ?_) fun _ => ⟨rfl, h⟩)
    exfalso
    have : vr nb = vr na ++ (vr nb).drop (vr na).length := by
      conv => lhs; rw [← List.take_append_drop (vr na).length (vr nb), heq]
    have := vr_inj (by omega) (by omega) this
    omega
  clear hu hv h
  rintro vs W2 _ ⟨rfl, h⟩
  refine app2 ?_
  have hu : By W2 u (vr na) := h.osl (v := u)
  refine x_lenS hu (a_rem64 (by omega) (by omega) ?_)
  rw [show ((c : Int) % ((vr na).length : Int)) = ((c % (vr na).length : Nat) : Int) by push_cast; rfl]
  have hr : c % (vr na).length < (vr na).length := Nat.mod_lt _ (by omega)
  generalize c % (vr na).length = r at *
  have cutBy : ∀ {j : Nat}, j ≤ (vr na).length → By W2 (cutV u j) ((vr na).take j) := fun {j} hj => by
    have := (h.cutOw (v := u) hj).osl (v := cutV u j)
    rw [Nat.mul_one] at this
    have e1 : (bytesV (vr na)).take j = bytesV ((vr na).take j) := by unfold bytesV; rw [List.map_take]
    have e2 : j = ((vr na).take j).length := by rw [List.length_take]; omega
    rw [e1] at this
    unfold By
    rw [← e2]
    exact this
  refine x_cutOw (v := u) h (Nat.le_of_lt hr) ?_
  refine readv_spec (a := 0) (cutBy (Nat.le_of_lt hr)) (by rw [List.length_take]; omega) (by decide) ?_
  have hread : readV ((vr na).take r) 0 = (0, 0, 2) := by
    unfold readV
    rw [if_neg (by omega), show (0 : Int).toNat = 0 from rfl, List.drop_zero, rdv_more (vr_take_high hr) (by rw [List.length_take]; omega)]
    rfl
  rw [hread]
  refine a_ext0 (a_ext1 (a_ext2 ?_))
  -- the last byte
  have hq : (vr na).length - 1 < (vr na).length := by omega
  obtain ⟨cl, hcl⟩ : ∃ cl, (vr na)[(vr na).length - 1]? = some cl := ⟨_, List.getElem?_eq_getElem hq⟩
  have hor : (cl.toNat ||| 128) < 256 := Nat.or_lt_two_pow (n := 8) cl.toNat_lt (by decide)
  have hor2 : 128 ≤ (cl.toNat ||| 128) := Nat.right_le_or
  have eB : nV .u8 (cl.toNat ||| 128) = byteV (UInt8.ofNat (cl.toNat ||| 128)) := by unfold byteV; rw [nu8 hor]
  have eT : (UInt8.ofNat (cl.toNat ||| 128)).toNat = (cl.toNat ||| 128) := nu8 hor
  generalize hHB : UInt8.ofNat (cl.toNat ||| 128) = hb8 at *
  generalize hPRE : (vr na).take ((vr na).length - 1) = pre at *
  have hpre : pre.length = (vr na).length - 1 := by rw [← hPRE, List.length_take]; omega
  have hlong : rdv (pre ++ [hb8] ++ [0]) 0 0 = (0, 0, 4) := by
    refine rdv_none (l := pre ++ [hb8]) (fun d hd => ?_) ?_ ?_ (by decide)
    · rcases List.mem_append.1 hd with h1 | h1
      · rw [← hPRE] at h1; exact vr_take_high hq d h1
      · rw [List.mem_singleton.1 h1]; omega
    · rw [List.length_append, List.length_singleton]; omega
    · rw [List.length_append, List.length_singleton]; omega
  have hcp : ∀ {W3 : World} {L : List As} {RR' : Value → World → Prop}, St W2 G0 L W3 → (∀ v' W', Cel1 v' → St W2 G0 (Ky v' (BO pre) :: L) W' → RR' v' W') → CallF Tryd.prog 15 #[cutV u ((vr na).length - 1)] W3 RR' := fun {W3 L RR'} h3 kk => by
    have hby := cutBy (j := (vr na).length - 1) (by omega)
    rw [hPRE] at hby
    exact ucopy_spec h3 (hby.below h3.low) (by omega) kk
  refine jni (fun vs W' => ∃ x, vs = [.int .i64 2, x] ∧ ∃ L, St W2 G0 L W' ∧ By W' x (pre ++ [hb8] ++ [0])) ?_ ?_
  · rintro vs W' _ ⟨x, rfl, L, h3, hx⟩
    refine app2 ?_
    refine readv_spec (a := 0) hx (by simp only [List.length_append, List.length_singleton]; omega) (by decide) ?_
    have hread2 : readV (pre ++ [hb8] ++ [0]) 0 = (0, 0, 4) := by
      unfold readV
      rw [if_neg (by omega), show (0 : Int).toNat = 0 from rfl, List.drop_zero, hlong]
      rfl
    rw [hread2]
    refine a_ext0 (a_ext1 (a_ext2 ?_))
    refine first1_spec hT (h.ext h3.low) fun W h => ift ?_
    refine w_eql (ifd_pos rfl ?_)
    exact w_eql (k W h.to)
  · refine ⟨St W2 G0 [], (St.start W2).drew, ?_⟩
    have h0 := (St.start W2).drew
    refine x_lenSs hu (a_sub64 (by omega) (by omega) ?_)
    rw [show (((vr na).length : Int) - 1) = (((vr na).length - 1 : Nat) : Int) by omega]
    refine x_cutOw (v := u) h (by omega) ?_
    refine x_lenSs hu (a_sub64 (by omega) (by omega) ?_)
    rw [show (((vr na).length : Int) - 1) = (((vr na).length - 1 : Nat) : Int) by omega]
    refine x_sat hu (fun w hw => hu.below hw.low) (bytesV_at hcl) ?_
    refine a_orN (n := cl.toNat) (m := 128) (le_u8 (UInt8.toNat_lt _)) (le_u8 (by decide)) ?_
    rw [eB]
    have ap2 : ∀ {W3 : World} {p z : Value}, Cel1 p → Cel1 z → St W2 G0 (Ky p (Ow 5 1 (pre.length + 1) (bytesV pre ++ [byteV hb8])) :: Ky z (Ow 5 1 1 [.int .u8 0])  :: []) W3 →
        RunV Tryd.prog (Builtin.append_ #[25, 25] 25 #[p, z]) W3 fun t138 w => ∃ x, [Value.int .i64 2, t138] = [.int .i64 2, x] ∧ ∃ L, St W2 G0 L w ∧ By w x (pre ++ [hb8] ++ [0]) := fun {W3 p z} op oz h3 => by
      have hz := h3.osl (v := z)
      refine h3.app (v := p) hz (fun c hc => by rw [List.mem_singleton.1 hc]; rfl) (by unfold maxLen; omega) (by omega) fun v' W' o' h4 _ => ?_
      refine ⟨v', rfl, _, h4, ?_⟩
      have h5 := h4.osl (v := v')
      have e1 : bytesV pre ++ [byteV hb8] ++ [Value.int .u8 0] = bytesV (pre ++ [hb8] ++ [0]) := by rw [bytesV_append, bytesV_append]; rfl
      have e2 : pre.length + 1 + 1 = (pre ++ [hb8] ++ [0]).length := by simp only [List.length_append, List.length_singleton]
      rw [e1, e2] at h5
      exact h5
    have drop2 : ∀ {A B : As} {Lx : List As} {Wx : World}, St W2 G0 (A :: B :: Lx) Wx → St W2 G0 (A :: Lx) Wx := fun hh => by
      obtain ⟨F, ⟨F1, F2, q1, q2, hd, hF⟩, hG⟩ := hh.own
      obtain ⟨F3, F4, q3, q4, hd2, hF2⟩ := q2
      exact { hh with own := ⟨fun b => F1 b ∨ F4 b, ⟨F1, F4, q1, q4, fun b hb1 hb2 => hd b hb1 ((hF2 b).2 (.inr hb2)), fun b => Iff.rfl⟩, fun b hb => hG b ((hF b).2 (hb.imp id fun hx => (hF2 b).2 (.inr hx)))⟩ }
    have ap1 : ∀ {W3 : World} {x y : Value} {KW : Value → World → Prop} {Lx : List As}, Cel1 x → Cel1 y → St W2 G0 (Ky x (BO pre) :: Ky y (Ow 5 1 1 [byteV hb8]) :: Lx) W3 →
        (∀ v' W', Cel1 v' → St W2 G0 (Ky v' (Ow 5 1 (pre.length + 1) (bytesV pre ++ [byteV hb8])) :: Lx) W' → KW v' W') → RunV Tryd.prog (Builtin.append_ #[25, 25] 25 #[x, y]) W3 KW := fun {W3 x y KW Lx} ox oy h3 kk => by
      have hy := h3.osl (v := y)
      refine h3.app (v := x) hy (fun c hc => by rw [List.mem_singleton.1 hc]; rfl) (by unfold maxLen; omega) (by omega) fun v' W' o' h4 _ => ?_
      exact kk v' W' o' (drop2 h4)
    have ap12 : ∀ {W3 : World} {x y z : Value}, Cel1 x → Cel1 y → Cel1 z → St W2 G0 (Ky x (BO pre) :: Ky y (Ow 5 1 1 [byteV hb8]) :: Ky z (Ow 5 1 1 [.int .u8 0])  :: []) W3 →
        RunV Tryd.prog (Builtin.append_ #[25, 25] 25 #[x, y]) W3 fun t136 w => RunV Tryd.prog (Builtin.append_ #[25, 25] 25 #[t136, z]) w fun t138 w => ∃ x, [Value.int .i64 2, t138] = [.int .i64 2, x] ∧ ∃ L, St W2 G0 L w ∧ By w x (pre ++ [hb8] ++ [0]) := fun {W3 x y z} ox oy oz h3 =>
      ap1 ox oy h3 fun v' W' o' h4 => ap2 o' oz h4
    have cab : ∀ {W3 : World} {x y : Value}, Cel1 x → Cel1 y → St W2 G0 (Ky x (BO pre) :: Ky y (Ow 5 1 1 [byteV hb8])  :: []) W3 →
        (RunV Tryd.prog (Builtin.append_ #[25, 25] 25 #[x, y]) W3 fun t136 w => RunV Tryd.prog (Instr.buildSlice 25 1 #[(0, (.int .u8 0))]) w fun t137 w => RunV Tryd.prog (Builtin.append_ #[25, 25] 25 #[t136, t137]) w fun t138 w => ∃ x, [Value.int .i64 2, t138] = [.int .i64 2, x] ∧ ∃ L, St W2 G0 L w ∧ By w x (pre ++ [hb8] ++ [0])) ∧
        ((RunV Tryd.prog (Instr.buildSlice 25 1 #[(0, (.int .u8 0))]) W3 fun t137 w => RunV Tryd.prog (Builtin.append_ #[25, 25] 25 #[x, y]) w fun t136 w => RunV Tryd.prog (Builtin.append_ #[25, 25] 25 #[t136, t137]) w fun t138 w => ∃ x, [Value.int .i64 2, t138] = [.int .i64 2, x] ∧ ∃ L, St W2 G0 L w ∧ By w x (pre ++ [hb8] ++ [0])) ∧ True) := fun {W3 x y} ox oy h3 =>
      ⟨ap1 ox oy h3 fun v' W' o' h4 => h4.lit fun z W' oz h5 => ap2 o' oz h5.to, h3.lit fun z W' oz h5 => ap12 ox oy oz h5.to, trivial⟩
    refine ⟨?_, ?_, ?_, trivial⟩
    · refine hcp h0 fun x W ox h3 => ⟨h3.to, ?_, ?_, trivial⟩
      · exact h3.lit fun y W oy h4 => cab ox oy h4.to
      · exact h3.lit fun z W oz h4 => ⟨h4.to, h4.lit fun y W oy h5 => ap12 ox oy oz h5.to⟩
    · refine h0.lit fun y W oy h3 => ⟨h3.to, ?_, ?_, trivial⟩
      · exact hcp h3 fun x W ox h4 => cab ox oy h4.to
      · exact h3.lit fun z W oz h4 => ⟨h4.to, hcp h4 fun x W ox h5 => ap12 ox oy oz h5.to⟩
    · refine h0.lit fun z W oz h3 => ⟨h3.to, ?_, ?_, trivial⟩
      · exact hcp h3 fun x W ox h4 => ⟨h4.to, h4.lit fun y W oy h5 => ap12 ox oy oz h5.to⟩
      · exact h3.lit fun y W oy h4 => ⟨h4.to, hcp h4 fun x W ox h5 => ap12 ox oy oz h5.to⟩
end
end Go.Proofs.YtknbnfpdcbpoeaaDoor
