/-
  DATES: the document's Mail, Any.
-/
import Derived.Test.YtififikdlcohpaaDoorDtL
namespace Go.Proofs.YtififikdlcohpaaDoor
open Go Go.Ez Go.RowKit
set_option linter.unusedSimpArgs false
set_option linter.unusedVariables false
theorem partsR_no {p0 p1 p2 p3 p4 : Txt} (h : ¬ ok4 p0 p1 p2 p3) : partsR p0 p1 p2 p3 p4 = (0, 4) := by classical
  unfold partsR; rw [if_neg h]
theorem partsR_yes {p0 p1 p2 p3 p4 : Txt} (h : ok4 p0 p1 p2 p3) : partsR p0 p1 p2 p3 p4 = (match zoneR p4 with | none => (0, 4) | some o => rangeP (yearV p2) (plc monthsL p1 + 1) (numV p0 0) (dg p3 0 2) (dg p3 3 2) (timeC p3) o) := by
  classical
  unfold partsR; rw [if_pos h]
  rfl
theorem zoneN_rng {z : Txt} {o : Int} (e : zoneN z = some o) : -400000 ≤ o ∧ o ≤ 400000 := by
  unfold zoneN at e
  repeat (first | (cases e; done) | (injection e with e; omega) | split at e)
theorem zoneR_rng {z : Txt} {o : Int} (e : zoneR z = some o) : -400000 ≤ o ∧ o ≤ 400000 := by
  unfold zoneR at e
  split at e
  · exact offR_rng e
  · exact zoneN_rng e
theorem plc_mem {ls : List Txt} {s : Txt} (h : 0 ≤ plc ls s) : s ∈ ls := by
  rcases plc_cases ls s with ⟨i, hi, _⟩ | ⟨_, e⟩
  · exact List.mem_of_getElem? hi
  · omega
theorem plc_mem2 {ls : List Txt} {s : Txt} (h : s ∈ ls) : 0 ≤ plc ls s := by
  rcases plc_cases ls s with ⟨i, _, e⟩ | ⟨n, _⟩
  · omega
  · exact absurd h n
theorem plc_le (ls : List Txt) (s : Txt) : plc ls s ≤ ls.length := by
  rcases plc_cases ls s with ⟨i, hi, e⟩ | ⟨_, e⟩
  · have := (List.getElem?_eq_some_iff.1 hi).1; omega
  · omega
theorem dg_nn {p : Txt} : 0 ≤ dg p 0 p.length ↔ p.all isDig = true := by
  rw [dg_all]
  by_cases h : p.all isDig = true
  · rw [if_pos h]; exact ⟨fun _ => h, fun _ => numV_nn p h⟩
  · rw [if_neg h]; exact ⟨fun hh => by omega, fun hh => absurd hh h⟩
theorem dg_val {p : Txt} (h : p.all isDig = true) : dg p 0 p.length = numV p 0 := by rw [dg_all, if_pos h]
theorem numV_4 {p : Txt} (h : p.all isDig = true) (hl : p.length ≤ 4) : 0 ≤ numV p 0 ∧ numV p 0 < 10000 := by
  obtain ⟨n1, n2⟩ := numV_rng p 0 (Int.le_refl _) fun c hc => List.all_eq_true.1 h c hc
  have n3 : (10 ^ p.length : Nat) ≤ 10000 := by
    have : (10 : Nat) ^ p.length ≤ 10 ^ 4 := Nat.pow_le_pow_right (by decide) hl
    exact this
  exact ⟨n1, by omega⟩
theorem splA_lens0 (c : UInt8) (r : Txt) : ∀ acc p, p ∈ splA c acc r → p.length ≤ acc.length + r.length := by
  induction r with
  | nil => intro acc p h; unfold splA at h; rw [List.mem_singleton] at h; subst h; exact Nat.le_refl _
  | cons a r ih =>
    intro acc p h
    unfold splA at h
    split at h
    · rcases List.mem_cons.1 h with rfl | h
      · omega
      · have := ih [] p h
        simp at this ⊢; omega
    · have := ih _ p h
      simp at this ⊢; omega
theorem splA_lens (t : Txt) : ∀ p ∈ splA 32 [] t, p.length ≤ t.length := fun p h => by
  have := splA_lens0 32 t [] p h
  simpa using this
section
variable {w0 W W' : World} {G : Nat → Prop} {l R : List As} {RR : Value → World → Prop} {s t : Txt}
/-- hblref1.Mail -/
theorem mailR_spec (h : St w0 G l W) (hs : s.length ≤ 100000) (k : ∀ W', St w0 G l W' → RR (.tuple #[.int .i64 (mailR s).1, .int .i64 (mailR s).2]) W') : CallF Tryd.prog 30 #[strV s] W RR := by
  classical
  refine sh30_calls ?_
  unfold sh30
  have bad0 : ∀ W', St w0 G l W' → mailR s = (0, 4) → RR (.tuple #[.int .i64 0, .int .i64 4]) W' := fun W' h e => by
    have := k W' h; rw [e] at this; exact this
  refine jni (fun vs W' => ∃ t : Txt, vs = [strV t] ∧ mailR s = mailM t ∧ t.length ≤ 100000 ∧ St w0 G l W') ?_ ?_
  rotate_left
  · refine x_len (a_gtr (ifd (fun h5 => ?_) fun h5 => ⟨s, rfl, by unfold mailR; rw [if_neg fun e => h5 (by omega)], hs, h⟩))
    obtain ⟨c3, q3⟩ := char_at (s := s) (i := 3) (by omega)
    refine x_index (i := 3) q3 (w_eqC 44 rfl (ifd (fun e44 => ?_) fun n44 => ⟨s, rfl, by unfold mailR; rw [if_neg fun e => n44 (by rw [q3] at e; exact Option.some.inj e.2)], hs, h⟩))
    subst e44
    have hm : mailR s = if plc wdaysL (s.take 3) < 0 ∨ s[4]? ≠ some 32 then (0, 4) else mailM (s.drop 5) := by
      unfold mailR; rw [if_pos ⟨by omega, q3⟩]
    refine h.lit fun v W _ h => ?_
    replace h : St w0 G (Ky v (StrO wdaysL) :: l) W := h
    refine x_cutH (hi := 3) (by omega) ?_
    refine placeR_spec (ls := wdaysL) (h.osl (v := v)) (by decide) ?_
    refine a_lss (ifd (fun hc => bad0 W h.to (by rw [hm, if_pos (.inl hc)])) fun hc => ?_)
    obtain ⟨c4, q4⟩ := char_at (s := s) (i := 4) (by omega)
    refine x_index (i := 4) q4 (w_neC 32 rfl (ifd (fun n32 => bad0 W h.to (by rw [hm, if_pos (.inr fun e => n32 (by rw [q4] at e; exact Option.some.inj e))])) fun e32 => ?_))
    refine x_cutL (lo := 5) (by omega) ?_
    refine ⟨s.drop 5, rfl, ?_, by rw [List.length_drop]; omega, h.to⟩
    have hno : ¬ (plc wdaysL (s.take 3) < 0 ∨ s[4]? ≠ some 32) := by
      rintro (e | e)
      · exact hc e
      · exact e (by rw [q4, Classical.not_not.1 e32])
    rw [hm, if_neg hno]
  clear h
  rintro vs W _ ⟨t, rfl, hm, ht, h⟩
  refine app1 ?_
  have bad : ∀ W', St w0 G l W' → mailM t = (0, 4) → RR (.tuple #[.int .i64 0, .int .i64 4]) W' := fun W' h e => bad0 W' h (by rw [hm, e])
  refine splitR_spec h ht fun v W h => ?_
  have hM : mailM t = (match splA 32 [] t with | [p0, p1, p2, p3, p4] => partsR p0 p1 p2 p3 p4 | _ => (0, 4)) := rfl
  have hlen : ∀ p ∈ splA 32 [] t, p.length ≤ t.length := splA_lens t
  generalize splA 32 [] t = L at *
  refine x_lenS (h.osl (v := v)) (w_neq (ifd (fun hc => ?_) fun hc => ?_))
  · refine bad W h.to ?_
    rw [hM]
    split
    · exact absurd rfl hc
    · rfl
  have h5 : L.length = 5 := by omega
  clear hc
  obtain ⟨p0, p1, p2, p3, p4, rfl⟩ : ∃ p0 p1 p2 p3 p4, L = [p0, p1, p2, p3, p4] := by
    clear hM hlen h k bad bad0
    match L, h5 with
    | [a, b, c, d, e], _ => exact ⟨a, b, c, d, e, rfl⟩
  replace hM : mailM t = partsR p0 p1 p2 p3 p4 := hM
  have l0 := hlen p0 (by simp)
  have l2 := hlen p2 (by simp)
  have l3 := hlen p3 (by simp)
  clear hlen
  have no : ∀ W', St w0 G (Ky v (StrO [p0, p1, p2, p3, p4]) :: l) W' → ¬ ok4 p0 p1 p2 p3 → RR (.tuple #[.int .i64 0, .int .i64 4]) W' := fun W' h hn => bad W' h.to (by rw [hM, partsR_no hn])
  refine jni (fun vs W' => ∃ d y : Int, vs = [v, .int .i64 d, .int .i64 (plc monthsL p1), .int .i64 y] ∧ (p0.length ≤ 9 → d = dg p0 0 p0.length) ∧ (p2.length ≤ 9 → y = dg p2 0 p2.length) ∧ St w0 G (Ky v (StrO [p0, p1, p2, p3, p4]) :: l) W') ?_ ?_
  rotate_left
  · refine ⟨St w0 G (Ky v (StrO [p0, p1, p2, p3, p4]) :: l), h.drew, ?_⟩
    replace h := h.drew
    refine x_sat (i := 0) (u := strV p0) (h.osl (v := v)) (fun w hw => hw.osl (v := v)) rfl ?_
    refine x_sat (i := 0) (u := strV p0) (h.osl (v := v)) (fun w hw => hw.osl (v := v)) rfl (x_lens ?_)
    refine x_sat (i := 1) (u := strV p1) (h.osl (v := v)) (fun w hw => hw.osl (v := v)) rfl ?_
    refine x_sat (i := 2) (u := strV p2) (h.osl (v := v)) (fun w hw => hw.osl (v := v)) rfl ?_
    refine x_sat (i := 2) (u := strV p2) (h.osl (v := v)) (fun w hw => hw.osl (v := v)) rfl (x_lens ?_)
    refine ⟨?_, ?_, trivial⟩
    · refine digR_spec (a := 0) (n := p0.length) (by omega) fun d e0 => ⟨h, ?_⟩
      refine h.lit fun u W _ h => ⟨h.to, ?_⟩
      replace h : St w0 G (Ky u (StrO monthsL) :: Ky v (StrO [p0, p1, p2, p3, p4]) :: l) W := h
      refine placeR_spec (ls := monthsL) (h.osl (v := u)) (by decide) ⟨h.to, ?_⟩
      refine digR_spec (a := 0) (n := p2.length) (by omega) fun y e2 => ?_
      exact ⟨d, y, rfl, e0, e2, h.to⟩
    · refine h.lit fun u W _ h => ⟨h.to, ?_⟩
      replace h : St w0 G (Ky u (StrO monthsL) :: Ky v (StrO [p0, p1, p2, p3, p4]) :: l) W := h
      refine digR_spec (a := 0) (n := p0.length) (by omega) fun d e0 => ⟨h.to, ?_⟩
      refine placeR_spec (ls := monthsL) (h.osl (v := u)) (by decide) ⟨h.to, ?_⟩
      refine digR_spec (a := 0) (n := p2.length) (by omega) fun y e2 => ?_
      exact ⟨d, y, rfl, e0, e2, h.to⟩
  clear h
  rintro vs W _ ⟨d, y, rfl, e0, e2, h⟩
  refine app4 ?_
  refine jni (fun vs W' => vs = [v, .int .i64 (numV p0 0), .int .i64 (plc monthsL p1), .int .i64 (numV p2 0)] ∧ okDay p0 ∧ p1 ∈ monthsL ∧ okYear p2 ∧ St w0 G (Ky v (StrO [p0, p1, p2, p3, p4]) :: l) W') ?_ ?_
  rotate_left
  · refine x_at (i := 0) (u := strV p0) (h.osl (v := v)) rfl (x_len (a_lss (ifd (fun hc => no W h fun ok => by have := ok.1.1; omega) fun a1 => ?_)))
    refine x_at (i := 0) (u := strV p0) (h.osl (v := v)) rfl (x_len (a_gtr (ifd (fun hc => no W h fun ok => by have := ok.1.2.1; omega) fun a2 => ?_)))
    obtain rfl := e0 (by omega)
    refine a_lss (ifd (fun hc => no W h fun ok => by have := dg_nn.2 ok.1.2.2; omega) fun a3 => ?_)
    refine a_lss (ifd (fun hc => no W h fun ok => by have := plc_mem2 ok.2.1; omega) fun a4 => ?_)
    have o0 : okDay p0 := ⟨by omega, by omega, dg_nn.1 (by omega)⟩
    have o1 : p1 ∈ monthsL := plc_mem (by omega)
    refine x_at (i := 2) (u := strV p2) (h.osl (v := v)) rfl (x_len (w_neq (ifd (fun n4 => ?_) fun e4 => ?_)))
    · refine x_at (i := 2) (u := strV p2) (h.osl (v := v)) rfl (x_len (w_neq (ifd (fun n2 => no W h fun ok => by have := ok.2.2.1.1; omega) fun e2' => ?_)))
      obtain rfl := e2 (by omega)
      refine a_lss (ifd (fun hc => no W h fun ok => by have := dg_nn.2 ok.2.2.1.2; omega) fun a5 => ?_)
      have hd := dg_nn.1 (show 0 ≤ dg p2 0 p2.length by omega)
      rw [dg_val o0.2.2, dg_val hd]
      exact ⟨rfl, o0, o1, ⟨by omega, hd⟩, h⟩
    · obtain rfl := e2 (by omega)
      refine a_lss (ifd (fun hc => no W h fun ok => by have := dg_nn.2 ok.2.2.1.2; omega) fun a5 => ?_)
      have hd := dg_nn.1 (show 0 ≤ dg p2 0 p2.length by omega)
      rw [dg_val o0.2.2, dg_val hd]
      exact ⟨rfl, o0, o1, ⟨by omega, hd⟩, h⟩
  clear h e0 e2
  rintro vs W _ ⟨rfl, o0, o1, o2, h⟩
  refine app4 ?_
  have hn2 := numV_4 o2.2 (by have := o2.1; omega)
  refine jni (fun vs W' => vs = [v, .int .i64 (numV p0 0), .int .i64 (plc monthsL p1), .int .i64 (yearV p2)] ∧ St w0 G (Ky v (StrO [p0, p1, p2, p3, p4]) :: l) W') ?_ ?_
  rotate_left
  · refine x_at (i := 2) (u := strV p2) (h.osl (v := v)) rfl (x_len (w_eql (ifd (fun e2 => ?_) fun n2 => ?_)))
    · have hy : yearV p2 = if numV p2 0 < 69 then numV p2 0 + 2000 else numV p2 0 + 1900 := by unfold yearV; rw [if_pos (by omega)]
      refine a_lss (ifd (fun c69 => ?_) fun c69 => ?_)
      · refine a_add64 (by omega) (by omega) ⟨?_, h⟩
        rw [hy, if_pos c69]
      · refine jni (fun vs W' => vs = [v, .int .i64 (numV p0 0), .int .i64 (plc monthsL p1), .int .i64 (yearV p2)] ∧ St w0 G (Ky v (StrO [p0, p1, p2, p3, p4]) :: l) W') (by rintro vs W' _ ⟨rfl, h⟩; exact app4 ⟨rfl, h⟩) ?_
        refine x_at (i := 2) (u := strV p2) (h.osl (v := v)) rfl (x_len (w_eql (ifd_pos e2 ?_)))
        refine a_add64 (by omega) (by omega) ⟨?_, h⟩
        rw [hy, if_neg c69]
    · have hy : yearV p2 = numV p2 0 := by unfold yearV; rw [if_neg (by omega)]
      refine jni (fun vs W' => vs = [v, .int .i64 (numV p0 0), .int .i64 (plc monthsL p1), .int .i64 (yearV p2)] ∧ St w0 G (Ky v (StrO [p0, p1, p2, p3, p4]) :: l) W') (by rintro vs W' _ ⟨rfl, h⟩; exact app4 ⟨rfl, h⟩) ?_
      refine x_at (i := 2) (u := strV p2) (h.osl (v := v)) rfl (x_len (w_eql (ifd_neg n2 ⟨?_, h⟩)))
      rw [hy]
  clear h
  rintro vs W _ ⟨rfl, h⟩
  refine app4 ?_
  refine x_at (i := 3) (u := strV p3) (h.osl (v := v)) rfl ?_
  refine jni (fun vs W' => vs = [v, .int .i64 (numV p0 0), .int .i64 (plc monthsL p1), .int .i64 (yearV p2), strV p3] ∧ ((p3.length = 5 ∨ p3.length = 8) ∧ p3[2]? = some 58 ∧ (p3.length = 8 → p3[5]? = some 58)) ∧ St w0 G (Ky v (StrO [p0, p1, p2, p3, p4]) :: l) W') ?_ ?_
  rotate_left
  · have two : (p3.length = 5 ∨ p3.length = 8) → ∃ c, p3[2]? = some c := fun e => char_at (by omega)
    refine x_len (w_neq (ifd (fun n5 => ?_) fun e5 => ?_))
    · refine x_len (w_neq (ifd (fun n8 => no W h fun ok => by have := ok.2.2.2.1; omega) fun e8 => ?_))
      obtain ⟨c, q2⟩ := two (by omega)
      refine x_index (i := 2) q2 (w_neC 58 rfl (ifd (fun n58 => no W h fun ok => by have := ok.2.2.2.2.1; rw [q2] at this; exact n58 (Option.some.inj this)) fun e58 => ?_))
      have q2' : p3[2]? = some 58 := by rw [q2, Classical.not_not.1 e58]
      refine x_len (w_eql (ifd (fun e8' => ?_) fun n8' => ⟨rfl, ⟨by omega, q2', fun e => absurd e (by omega)⟩, h⟩))
      obtain ⟨c5, q5⟩ := char_at (s := p3) (i := 5) (by omega)
      refine x_index (i := 5) q5 (w_neC 58 rfl (ifd (fun n58 => no W h fun ok => by have := ok.2.2.2.2.2.1 (by omega); rw [q5] at this; exact n58 (Option.some.inj this)) fun e58' => ?_))
      exact ⟨rfl, ⟨by omega, q2', fun _ => by rw [q5, Classical.not_not.1 e58']⟩, h⟩
    · obtain ⟨c, q2⟩ := two (by omega)
      refine x_index (i := 2) q2 (w_neC 58 rfl (ifd (fun n58 => no W h fun ok => by have := ok.2.2.2.2.1; rw [q2] at this; exact n58 (Option.some.inj this)) fun e58 => ?_))
      have q2' : p3[2]? = some 58 := by rw [q2, Classical.not_not.1 e58]
      refine x_len (w_eql (ifd (fun e8' => ?_) fun n8' => ⟨rfl, ⟨by omega, q2', fun e => absurd e (by omega)⟩, h⟩))
      obtain ⟨c5, q5⟩ := char_at (s := p3) (i := 5) (by omega)
      refine x_index (i := 5) q5 (w_neC 58 rfl (ifd (fun n58 => no W h fun ok => by have := ok.2.2.2.2.2.1 (by omega); rw [q5] at this; exact n58 (Option.some.inj this)) fun e58' => ?_))
      exact ⟨rfl, ⟨by omega, q2', fun _ => by rw [q5, Classical.not_not.1 e58']⟩, h⟩
  clear h
  rintro vs W _ ⟨rfl, ⟨t1, t2, t3⟩, h⟩
  refine app5 ?_
  refine digR_spec (a := 0) (n := 2) (by decide) fun v1 e1 => digR_spec (a := 3) (n := 2) (by decide) fun v2 e2 => ?_
  rw [e1 (by decide), e2 (by decide)]
  refine jni (fun vs W' => vs = [v, .int .i64 (numV p0 0), .int .i64 (plc monthsL p1), .int .i64 (yearV p2), .int .i64 (dg p3 0 2), .int .i64 (dg p3 3 2), .int .i64 (timeC p3)] ∧ St w0 G (Ky v (StrO [p0, p1, p2, p3, p4]) :: l) W') ?_ ?_
  rotate_left
  · refine x_len (w_eql (ifd (fun e8 => ?_) fun n8 => ⟨?_, h⟩))
    · refine digR_spec (a := 6) (n := 2) (by decide) fun v3 e3 => ?_
      rw [e3 (by decide)]
      exact ⟨by unfold timeC; rw [if_pos (by omega)], h⟩
    · unfold timeC; rw [if_neg (by omega)]
  clear h
  rintro vs W _ ⟨rfl, h⟩
  refine app7 ?_
  refine x_at (i := 4) (u := strV p4) (h.osl (v := v)) rfl ?_
  refine zoneR_spec h fun W h => ?_
  refine a_ext0 (a_ext1 ?_)
  refine a_lss (ifd (fun hc => no W h fun ok => by have := ok.2.2.2.2.2.2.1; omega) fun g1 => ?_)
  refine a_lss (ifd (fun hc => no W h fun ok => by have := ok.2.2.2.2.2.2.2.1; omega) fun g2 => ?_)
  have hT : timeC p3 < 0 → ¬ okTime p3 := fun hc ok => by
    unfold timeC at hc
    split at hc
    · rename_i h8; have := ok.2.2.2.2.2 h8; omega
    · omega
  refine a_lss (ifd (fun hc => no W h fun ok => hT hc ok.2.2.2) fun g3 => ?_)
  have ok : ok4 p0 p1 p2 p3 := ⟨o0, o1, o2, t1, t2, t3, by omega, by omega, fun h8 => by unfold timeC at g3; rw [if_pos h8] at g3; omega⟩
  have hp := plc_le monthsL p1
  rw [show monthsL.length = 12 from rfl] at hp
  have hp0 := plc_mem2 o1
  rw [partsR_yes ok] at hM
  cases hz : zoneR p4 with
  | none =>
    rw [hz] at hM
    exact a_not (ift (bad W h.to hM))
  | some o =>
    rw [hz] at hM
    refine a_not (iff' ?_)
    refine a_add64 (by omega) (by omega) ?_
    refine madeR_spec (zoneR_rng hz) (a_ext0 (a_ext1 ?_))
    have := k W h.to
    rw [hm, hM] at this
    exact this
/-- hblref1.Any -/
noncomputable def anyR (s : Txt) : Int × Int := if (netR s).2 = 4 then mailR s else netR s
theorem anyR_spec (h : St w0 G l W) (hs : s.length ≤ 100000) (k : ∀ W', St w0 G l W' → RR (.tuple #[.int .i64 (anyR s).1, .int .i64 (anyR s).2]) W') : CallF Tryd.prog 33 #[strV s] W RR := by
  refine sh33_calls ?_
  unfold sh33
  refine netR_spec h hs fun W h => ?_
  refine a_ext0 (a_ext1 (w_eql (ifd (fun hc => ?_) fun hc => ?_)))
  · rw [show anyR s = mailR s by unfold anyR; rw [if_pos hc]] at k
    refine mailR_spec h hs fun W h => ?_
    exact a_ext0 (a_ext1 (k W h))
  · rw [show anyR s = netR s by unfold anyR; rw [if_neg hc]] at k
    exact k W h
theorem any_same (s : Txt) : anyP s = anyR s := by
  unfold anyP anyR
  rw [net_same, mail_same]
end
end Go.Proofs.YtififikdlcohpaaDoor
