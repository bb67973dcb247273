/-
  KEYS: the document's Parse, Prefix.
-/
import Derived.Test.YtgflkjhljggeiaaDoorKyJ
import Derived.KernelRfl
namespace Go.Proofs.YtgflkjhljggeiaaDoor
open Go Go.Ez Go.RowKit Go.Lib
theorem unhR_len {s : Txt} : ((unhR s).getD []).length ≤ s.length := by
  cases h : unhR s with
  | none => simp
  | some o =>
    unfold unhR at h
    split at h
    · have := unh_len dig16 h
      simp only [Option.getD_some]; omega
    · cases h
theorem numD_le (s : Txt) : numD s ≤ 9223372036854775807 := by
  unfold numD
  split
  · rename_i h
    obtain ⟨_, n2⟩ := sumD_rng s 0 (Int.le_refl _) h.2
    rw [h.1] at n2
    have : ((10 ^ 6 : Nat) : Int) = 1000000 := by decide
    omega
  · decide
theorem docX_ok {L : List Txt} {N : Nat} (hL : ∀ p ∈ L, p.length ≤ N) : (docX L).user.length ≤ N ∧ (docX L).feed.length ≤ N ∧ (docX L).name.length ≤ N ∧ (docX L).guid.length ≤ N ∧ (docX L).num ≤ 9223372036854775807 := by
  have z : Pts.zero.user.length ≤ N ∧ Pts.zero.feed.length ≤ N ∧ Pts.zero.name.length ≤ N ∧ Pts.zero.guid.length ≤ N ∧ Pts.zero.num ≤ 9223372036854775807 := ⟨Nat.zero_le _, Nat.zero_le _, Nat.zero_le _, Nat.zero_le _, by decide⟩
  match L, hL with
  | [], _ => exact z
  | [_], _ => exact z
  | [a, b], hL =>
    have hb := hL b (by simp)
    unfold docX
    simp only
    split
    · exact ⟨Nat.zero_le _, hb, Nat.zero_le _, Nat.zero_le _, show (0 : Int) ≤ 9223372036854775807 by decide⟩
    · exact z
  | [a, b, c], hL =>
    have hb := hL b (by simp)
    have hc := hL c (by simp)
    have hn := numD_le c
    have hu := unhR_len (s := c)
    unfold docX
    simp only
    (repeat' split) <;> first | exact z | (refine ⟨?_, ?_, ?_, ?_, ?_⟩ <;> simp only [List.length_nil] <;> omega)
  | [a, b, c, d], hL =>
    have hb := hL b (by simp)
    have hc := hL c (by simp)
    have hn := numD_le d
    unfold docX
    simp only
    split
    · exact ⟨hb, hc, Nat.zero_le _, Nat.zero_le _, hn⟩
    · exact z
  | _ :: _ :: _ :: _ :: _ :: _, _ => exact z
theorem docX_far {L : List Txt} (h2 : L.length ≠ 2) (h3 : L.length ≠ 3) (h4 : L.length ≠ 4) : docX L = Pts.zero := by
  match L, h2, h3, h4 with
  | [], _, _, _ => rfl
  | [_], _, _, _ => rfl
  | _ :: _ :: _ :: _ :: _ :: _, _, _, _ => rfl
set_option linter.unusedSimpArgs false
set_option linter.unusedVariables false
theorem s_str {P : Program} {S : World → Prop} {K : Value → Prop} {src dst e : TypeId} {v : Value} {l : List UInt8} [u : Und P src (.slice e)] [u1 : Und P e (.int .u8)] [u2 : Und P dst .string] (hv : ∀ w, S w → By w v l) (h : K (.string ⟨l.toArray⟩)) : RunS P S (convert src dst v) K := by
  refine .of (fun w hw => ?_) h
  obtain ⟨v', w', h1, h2, h3⟩ := x_str (P := P) (src := src) (dst := dst) (KW := fun v w' => v = .string ⟨l.toArray⟩ ∧ w' = w) (hv w hw) ⟨rfl, rfl⟩
  rw [h1, h2, h3]
section
variable {w0 W W' : World} {l R : List As} {RR : Value → World → Prop} {t s u f : Txt} {b : Nat} {v : Value}
theorem rpref4_spec (hu : u.length ≤ 1000000) (hf : f.length ≤ 1000000) (k : RR (strV (bgn (jnS [115] [u]))) W) : CallF Tryd.prog 17 #[.int .i64 4, strV u, strV f] W RR := by
  refine sh17_calls ?_
  unfold sh17
  refine rname_spec (by omega) (rname_spec (by omega) ?_)
  rw [bgn1 _ _ (by simp)] at k
  refine jni (fun vs W' => vs = [] ∧ ¬ nameS u = true ∧ W' = W) (by rintro vs W' _ ⟨rfl, hn, rfl⟩; exact app0 (by rw [if_neg hn] at k; exact k)) ?_
  refine w_eql (ifd_pos rfl (ifb (fun c => ?_) fun c => ?_))
  · rw [if_pos c] at k
    refine a_cat (l := [115, 47]) (by simp; omega) (a_cat (m := [47]) (by simp; omega) ?_)
    simpa using k
  refine jni (fun vs W' => vs = [] ∧ ¬ nameS u = true ∧ W' = W) (by rintro vs W' _ h; exact app0 (by obtain ⟨_, h2, h3⟩ := h; exact ⟨rfl, h2, h3⟩)) ?_
  refine w_eql (ifd_neg (by decide) ?_)
  refine jni (fun vs W' => vs = [] ∧ ¬ nameS u = true ∧ W' = W) (by rintro vs W' _ h; exact app0 (by obtain ⟨_, h2, h3⟩ := h; exact ⟨rfl, h2, h3⟩)) ?_
  refine w_eql (ifd_neg (by decide) ?_)
  refine jni (fun vs W' => vs = [] ∧ ¬ nameS u = true ∧ W' = W) (by rintro vs W' _ h; exact app0 (by obtain ⟨_, h2, h3⟩ := h; exact ⟨rfl, h2, h3⟩)) ?_
  refine w_eql (ifd_neg (by decide) ⟨rfl, by rw [c]; simp, rfl⟩)
theorem rpref5_spec (hu : u.length ≤ 1000000) (hf : f.length ≤ 1000000) (k : RR (strV (bgn (jnS [100] [u]))) W) : CallF Tryd.prog 17 #[.int .i64 5, strV u, strV f] W RR := by
  refine sh17_calls ?_
  unfold sh17
  refine rname_spec (by omega) (rname_spec (by omega) ?_)
  rw [bgn1 _ _ (by simp)] at k
  refine jni (fun vs W' => vs = [] ∧ ¬ nameS u = true ∧ W' = W) (by rintro vs W' _ ⟨rfl, hn, rfl⟩; exact app0 (by rw [if_neg hn] at k; exact k)) ?_
  refine w_eql (ifd_neg (by decide) ?_)
  refine jni (fun vs W' => vs = [] ∧ ¬ nameS u = true ∧ W' = W) (by rintro vs W' _ h; exact app0 (by obtain ⟨_, h2, h3⟩ := h; exact ⟨rfl, h2, h3⟩)) ?_
  refine w_eql (ifd_pos rfl (ifb (fun c => ?_) fun c => ?_))
  · rw [if_pos c] at k
    refine a_cat (l := [100, 47]) (by simp; omega) (a_cat (m := [47]) (by simp; omega) ?_)
    simpa using k
  refine jni (fun vs W' => vs = [] ∧ ¬ nameS u = true ∧ W' = W) (by rintro vs W' _ h; exact app0 (by obtain ⟨_, h2, h3⟩ := h; exact ⟨rfl, h2, h3⟩)) ?_
  refine w_eql (ifd_neg (by decide) ?_)
  refine jni (fun vs W' => vs = [] ∧ ¬ nameS u = true ∧ W' = W) (by rintro vs W' _ h; exact app0 (by obtain ⟨_, h2, h3⟩ := h; exact ⟨rfl, h2, h3⟩)) ?_
  refine w_eql (ifd_neg (by decide) ⟨rfl, by rw [c]; simp, rfl⟩)
theorem rpref2_spec (hu : u.length ≤ 1000000) (hf : f.length ≤ 1000000) (k : RR (strV (bgn (jnS [101] [f]))) W) : CallF Tryd.prog 17 #[.int .i64 2, strV u, strV f] W RR := by
  refine sh17_calls ?_
  unfold sh17
  refine rname_spec (by omega) (rname_spec (by omega) ?_)
  rw [bgn1 _ _ (by simp)] at k
  refine jni (fun vs W' => vs = [] ∧ ¬ nameS f = true ∧ W' = W) (by rintro vs W' _ ⟨rfl, hn, rfl⟩; exact app0 (by rw [if_neg hn] at k; exact k)) ?_
  refine w_eql (ifd_neg (by decide) ?_)
  refine jni (fun vs W' => vs = [] ∧ ¬ nameS f = true ∧ W' = W) (by rintro vs W' _ h; exact app0 (by obtain ⟨_, h2, h3⟩ := h; exact ⟨rfl, h2, h3⟩)) ?_
  refine w_eql (ifd_neg (by decide) ?_)
  refine jni (fun vs W' => vs = [] ∧ ¬ nameS f = true ∧ W' = W) (by rintro vs W' _ h; exact app0 (by obtain ⟨_, h2, h3⟩ := h; exact ⟨rfl, h2, h3⟩)) ?_
  refine w_eql (ifd_pos rfl (ifb (fun c => ?_) fun c => ?_))
  · rw [if_pos c] at k
    refine a_cat (l := [101, 47]) (by simp; omega) (a_cat (m := [47]) (by simp; omega) ?_)
    simpa using k
  refine jni (fun vs W' => vs = [] ∧ ¬ nameS f = true ∧ W' = W) (by rintro vs W' _ h; exact app0 (by obtain ⟨_, h2, h3⟩ := h; exact ⟨rfl, h2, h3⟩)) ?_
  refine w_eql (ifd_neg (by decide) ⟨rfl, by rw [c]; simp, rfl⟩)
theorem rpref6_spec (hu : u.length ≤ 1000000) (hf : f.length ≤ 1000000) (k : RR (strV (bgn (jnS [114] [u, f]))) W) : CallF Tryd.prog 17 #[.int .i64 6, strV u, strV f] W RR := by
  refine sh17_calls ?_
  unfold sh17
  refine rname_spec (by omega) (rname_spec (by omega) ?_)
  rw [bgn2 _ _ _ (by simp)] at k
  refine jni (fun vs W' => vs = [] ∧ ¬ (nameS u = true ∧ nameS f = true) ∧ W' = W) (by rintro vs W' _ ⟨rfl, hn, rfl⟩; exact app0 (by rw [if_neg hn] at k; exact k)) ?_
  refine w_eql (ifd_neg (by decide) ?_)
  refine jni (fun vs W' => vs = [] ∧ ¬ (nameS u = true ∧ nameS f = true) ∧ W' = W) (by rintro vs W' _ h; exact app0 (by obtain ⟨_, h2, h3⟩ := h; exact ⟨rfl, h2, h3⟩)) ?_
  refine w_eql (ifd_neg (by decide) ?_)
  refine jni (fun vs W' => vs = [] ∧ ¬ (nameS u = true ∧ nameS f = true) ∧ W' = W) (by rintro vs W' _ h; exact app0 (by obtain ⟨_, h2, h3⟩ := h; exact ⟨rfl, h2, h3⟩)) ?_
  refine w_eql (ifd_neg (by decide) ?_)
  refine jni (fun vs W' => vs = [] ∧ ¬ (nameS u = true ∧ nameS f = true) ∧ W' = W) (by rintro vs W' _ h; exact app0 (by obtain ⟨_, h2, h3⟩ := h; exact ⟨rfl, h2, h3⟩)) ?_
  refine w_eql (ifd_pos rfl (ifb (fun c => ifb (fun c2 => ?_) fun c2 => ⟨rfl, by rw [c2]; simp, rfl⟩) fun c => ⟨rfl, by rw [c]; simp, rfl⟩))
  rw [if_pos ⟨c, c2⟩] at k
  refine a_cat (l := [114, 47]) (by simp; omega) (a_cat (m := [47]) (by simp; omega) (a_cat (by simp; omega) (a_cat (m := [47]) (by simp; omega) ?_)))
  simpa using k
/-- what stands behind the parts -/
abbrev EndM (w0 : World) (l : List As) (s : Txt) (b2 b5 : Nat) (L : List Txt) (vs : List Value) (W' : World) : Prop :=
  vs = [strV s, .pointer (some ⟨b2, 0, none⟩), .pointer (some ⟨b5, 0, none⟩)] ∧ St w0 G0 (Ky b5 (PdO (docX L)) :: Ky b2 (PdO Pts.zero) :: l) W'
/-- hblref14.Parse -/
theorem rparse_spec (h : St w0 G0 l W) (hs : s.length ≤ 100000) (k : ∀ W', St w0 G0 l W' → RR (.tuple #[ptV (parS s).1, .bool (parS s).2]) W') : CallF Tryd.prog 11 #[strV s] W RR := by
  refine sh11_calls ?_
  unfold sh11
  rw [← doc_same] at k
  refine h.allocS fun b2 W h => ?_
  replace h : St w0 G0 (Ky b2 (PdO Pts.zero) :: l) W := h
  refine rsplit_spec h hs fun v W h => ?_
  have hlen : ∀ p ∈ splF s, p.length ≤ s.length := fun p hp => splF_len hp
  obtain ⟨d1, d2, d3, d4, d5⟩ := docX_ok hlen
  refine x_bld (cells := #[.int .i64 0, strV [], strV [], strV [], strV [], .int .i64 0]) (by kernel_rfl) ?_
  refine h.allocS fun b5 W h => ?_
  refine h.storeS (b := b5) (cs' := [.int .i64 0, strV [], strV [], strV [], strV [], .int .i64 0]) fun W h => ?_
  replace h : St w0 G0 (Ky b5 (PdO Pts.zero) :: Ky v (Ow 9 1 (splF s).length ((splF s).map strV)) :: Ky b2 (PdO Pts.zero) :: l) W := h
  -- behind
  have fin : ∀ W', St w0 G0 (Ky b5 (PdO (docX (splF s))) :: Ky b2 (PdO Pts.zero) :: l) W' → ((s = [] ∨ keyS (docX (splF s)) ≠ s) → ∀ W'', St w0 G0 l W'' → RR (.tuple #[ptV Pts.zero, .bool false]) W'') ∧ (¬ (s = [] ∨ keyS (docX (splF s)) ≠ s) → ∀ W'', St w0 G0 l W'' → RR (.tuple #[ptV (docX (splF s)), .bool true]) W'') := fun W' h => by
    refine ⟨fun c W'' h => ?_, fun c W'' h => ?_⟩
    · have := k W'' h; unfold docS at this; rw [if_pos c] at this; exact this
    · have := k W'' h; unfold docS at this; rw [if_neg c] at this; exact this
  clear k
  generalize hLd : splF s = L at *
  clear hLd
  have endd : ∀ (vs : List Value) (W' : World), EndM w0 l s b2 b5 L vs W' → appN 3 (fun t0_11 t2_12 t5_13 w =>
      RunW Tryd.prog (bin .eql 9 (.tmp 138) (.const (.string ⟨#[]⟩)) t0_11 (.string ⟨#[]⟩)) w fun t139_15 =>
      IfB t139_15 (
      RunV Tryd.prog (Instr.build 31 #[]) w fun t146_16 w =>
      RunU Tryd.prog (Instr.storeAt 31 t2_12 t146_16) w fun w =>
      RunW Tryd.prog (Instr.loadAt 31 t2_12) w fun t2_17 =>
      RR (.tuple #[t2_17, (.bool false)]) w) (
      RunW Tryd.prog (Instr.loadAt 31 t5_13) w fun t141_18 =>
      CallF Tryd.prog 12 #[t141_18] w fun t142_19 w =>
      RunW Tryd.prog (bin .neq 9 (.tmp 142) (.tmp 143) t142_19 t0_11) w fun t144_20 =>
      IfB t144_20 (
      RunV Tryd.prog (Instr.build 31 #[]) w fun t146_21 w =>
      RunU Tryd.prog (Instr.storeAt 31 t2_12 t146_21) w fun w =>
      RunW Tryd.prog (Instr.loadAt 31 t2_12) w fun t2_22 =>
      RR (.tuple #[t2_22, (.bool false)]) w) (
      RunW Tryd.prog (Instr.loadAt 31 t5_13) w fun t147_23 =>
      RunU Tryd.prog (Instr.storeAt 31 t2_12 t147_23) w fun w =>
      RunW Tryd.prog (Instr.loadAt 31 t2_12) w fun t2_24 =>
      RR (.tuple #[t2_24, (.bool true)]) w))) vs W' := by
    rintro vs W' ⟨rfl, h⟩
    refine app3 ?_
    obtain ⟨f1, f2⟩ := fin W' h
    refine w_eqlL (b := []) (ifd (fun e => ?_) fun e => ?_)
    · refine x_bld (cells := #[.int .i64 0, strV [], strV [], strV [], strV [], .int .i64 0]) (by kernel_rfl) ?_
      refine h.storeS (b := b2) (cs' := [.int .i64 0, strV [], strV [], strV [], strV [], .int .i64 0]) fun W h => ?_
      exact h.loadS (f1 (.inl e) W h.to)
    refine h.loadS ?_
    refine rkey_spec (p := docX L) h (by omega) (by omega) (by omega) (by omega) d5 fun W h => ?_
    refine w_neqL (ifd (fun e2 => ?_) fun e2 => ?_)
    · refine x_bld (cells := #[.int .i64 0, strV [], strV [], strV [], strV [], .int .i64 0]) (by kernel_rfl) ?_
      refine h.storeS (b := b2) (cs' := [.int .i64 0, strV [], strV [], strV [], strV [], .int .i64 0]) fun W h => ?_
      exact h.loadS (f1 (.inr e2) W h.to)
    · refine h.loadS ?_
      refine h.storeS (b := b2) (cs' := [.int .i64 (docX L).kind, strV (docX L).user, strV (docX L).feed, strV (docX L).name, strV (docX L).guid, .int .i64 (docX L).num]) fun W h => ?_
      exact h.loadS (f2 (fun hh => hh.elim e e2) W h.to)
  clear fin d1 d2 d3 d4 d5
  by_cases c2 : L.length = 2
  · obtain ⟨p0, p1, rfl⟩ : ∃ p0 p1, L = [p0, p1] := by
      clear endd h hlen
      match L, c2 with
      | [a, b], _ => exact ⟨a, b, rfl⟩
    clear c2
    have l0 := hlen p0 (by simp)
    have l1 := hlen p1 (by simp)
    refine jni (fun vs W' => vs = [strV s, .pointer (some ⟨b2, 0, none⟩), v, .pointer (some ⟨b5, 0, none⟩), .bool (decide (p0 = [102]))] ∧ St w0 G0 (Ky b5 (PdO Pts.zero) :: Ky v (Ow 9 1 [p0, p1].length ([p0, p1].map strV)) :: Ky b2 (PdO Pts.zero) :: l) W') ?_ ?_
    rotate_left
    · refine x_lenS (h.osl (v := v)) (w_eql (ifd_pos rfl (x_at (i := 0) (u := strV p0) (h.osl (v := v)) rfl (w_eqlL ⟨rfl, h⟩))))
    clear h
    rintro vs W _ ⟨rfl, h⟩
    refine app5 ?_
    refine jni (EndM w0 l s b2 b5 [p0, p1]) (fun vs W' _ h => endd vs W' h) ?_
    refine ifd (fun e0 => ?_) fun n1 => ?_
    · refine x_at (i := 1) (u := strV p1) (h.osl (v := v)) rfl ?_
      refine x_bld (cells := #[.int .i64 1, strV [], strV p1, strV [], strV [], .int .i64 0]) (by kernel_rfl) ?_
      refine h.storeS (b := b5) (cs' := [.int .i64 1, strV [], strV p1, strV [], strV [], .int .i64 0]) fun W h => ⟨rfl, ?_⟩
      rw [show docX [p0, p1] = Pts.mk 1 [] p1 [] [] 0 by subst e0; rfl]
      exact h.to
    refine jni (fun vs W' => vs = [strV s, .pointer (some ⟨b2, 0, none⟩), v, .pointer (some ⟨b5, 0, none⟩), .bool (false)] ∧ St w0 G0 (Ky b5 (PdO Pts.zero) :: Ky v (Ow 9 1 [p0, p1].length ([p0, p1].map strV)) :: Ky b2 (PdO Pts.zero) :: l) W') ?_ ?_
    rotate_left
    · exact x_lenS (h.osl (v := v)) (w_eql (ifd_neg (show ¬ ((2 : Nat) : Int) = 3 by decide) ⟨rfl, h⟩))
    clear h
    rintro vs W _ ⟨rfl, h⟩
    refine app5 ?_
    refine jni (EndM w0 l s b2 b5 [p0, p1]) (by rintro vs W' _ ⟨rfl, h⟩; exact app3 ⟨rfl, h⟩) ?_
    refine iff' ?_
    refine jni (EndM w0 l s b2 b5 [p0, p1]) (by rintro vs W' _ ⟨rfl, h⟩; exact app3 ⟨rfl, h⟩) ?_
    refine x_lenS (h.osl (v := v)) (w_eql (ifd_neg (show ¬ ((2 : Nat) : Int) = 3 by decide) ?_))
    refine jni (EndM w0 l s b2 b5 [p0, p1]) (by rintro vs W' _ ⟨rfl, h⟩; exact app3 ⟨rfl, h⟩) ?_
    refine x_lenS (h.osl (v := v)) (w_eql (ifd_neg (show ¬ ((2 : Nat) : Int) = 3 by decide) ?_))
    refine jni (EndM w0 l s b2 b5 [p0, p1]) (by rintro vs W' _ ⟨rfl, h⟩; exact app3 ⟨rfl, h⟩) ?_
    refine x_lenS (h.osl (v := v)) (w_eql (ifd_neg (show ¬ ((2 : Nat) : Int) = 3 by decide) ?_))
    refine jni (EndM w0 l s b2 b5 [p0, p1]) (by rintro vs W' _ ⟨rfl, h⟩; exact app3 ⟨rfl, h⟩) ?_
    refine x_lenS (h.osl (v := v)) (w_eql (ifd_neg (show ¬ ((2 : Nat) : Int) = 4 by decide) ?_))
    refine jni (EndM w0 l s b2 b5 [p0, p1]) (by rintro vs W' _ ⟨rfl, h⟩; exact app3 ⟨rfl, h⟩) ?_
    refine x_lenS (h.osl (v := v)) (w_eql (ifd_neg (show ¬ ((2 : Nat) : Int) = 3 by decide) ?_))
    refine ⟨rfl, ?_⟩
    rw [show docX [p0, p1] = Pts.zero by unfold docX; simp only [n1, if_false]]
    exact h.to
  by_cases c3 : L.length = 3
  · obtain ⟨p0, p1, p2, rfl⟩ : ∃ p0 p1 p2, L = [p0, p1, p2] := by
      clear endd h hlen c2
      match L, c3 with
      | [a, b, c], _ => exact ⟨a, b, c, rfl⟩
    clear c2 c3
    have l0 := hlen p0 (by simp)
    have l1 := hlen p1 (by simp)
    have l2 := hlen p2 (by simp)
    refine jni (fun vs W' => vs = [strV s, .pointer (some ⟨b2, 0, none⟩), v, .pointer (some ⟨b5, 0, none⟩), .bool (false)] ∧ St w0 G0 (Ky b5 (PdO Pts.zero) :: Ky v (Ow 9 1 [p0, p1, p2].length ([p0, p1, p2].map strV)) :: Ky b2 (PdO Pts.zero) :: l) W') ?_ ?_
    rotate_left
    · exact x_lenS (h.osl (v := v)) (w_eql (ifd_neg (show ¬ ((3 : Nat) : Int) = 2 by decide) ⟨rfl, h⟩))
    clear h
    rintro vs W _ ⟨rfl, h⟩
    refine app5 ?_
    refine jni (EndM w0 l s b2 b5 [p0, p1, p2]) (fun vs W' _ h => endd vs W' h) ?_
    refine iff' ?_
    refine jni (fun vs W' => vs = [strV s, .pointer (some ⟨b2, 0, none⟩), v, .pointer (some ⟨b5, 0, none⟩), .bool (decide (p0 = [101]))] ∧ St w0 G0 (Ky b5 (PdO Pts.zero) :: Ky v (Ow 9 1 [p0, p1, p2].length ([p0, p1, p2].map strV)) :: Ky b2 (PdO Pts.zero) :: l) W') ?_ ?_
    rotate_left
    · refine x_lenS (h.osl (v := v)) (w_eql (ifd_pos rfl (x_at (i := 0) (u := strV p0) (h.osl (v := v)) rfl (w_eqlL ⟨rfl, h⟩))))
    clear h
    rintro vs W _ ⟨rfl, h⟩
    refine app5 ?_
    refine jni (EndM w0 l s b2 b5 [p0, p1, p2]) (by rintro vs W' _ ⟨rfl, h⟩; exact app3 ⟨rfl, h⟩) ?_
    refine ifd (fun e0 => ?_) fun n2 => ?_
    · refine ⟨St w0 G0 (Ky b5 (PdO Pts.zero) :: Ky v (Ow 9 1 [p0, p1, p2].length ([p0, p1, p2].map strV)) :: Ky b2 (PdO Pts.zero) :: l), h.drew, ?_⟩
      replace h := h.drew
      refine x_sat (i := 1) (u := strV p1) (h.osl (v := v)) (fun w hw => hw.osl (v := v)) rfl ?_
      refine x_sat (i := 2) (u := strV p2) (h.osl (v := v)) (fun w hw => hw.osl (v := v)) rfl ?_
      refine rnumb_spec (by omega) ⟨h, ?_⟩
      refine x_bld (cells := #[.int .i64 2, strV [], strV p1, strV [], strV [], .int .i64 (numD p2)]) (by kernel_rfl) ?_
      refine h.storeS (b := b5) (cs' := [.int .i64 2, strV [], strV p1, strV [], strV [], .int .i64 (numD p2)]) fun W h => ⟨rfl, ?_⟩
      rw [show docX [p0, p1, p2] = Pts.mk 2 [] p1 [] [] (numD p2) by subst e0; rfl]
      exact h.to
    refine jni (EndM w0 l s b2 b5 [p0, p1, p2]) (by rintro vs W' _ ⟨rfl, h⟩; exact app3 ⟨rfl, h⟩) ?_
    refine x_lenS (h.osl (v := v)) (w_eql (ifd_pos rfl (x_at (i := 0) (u := strV p0) (h.osl (v := v)) rfl (w_eqlL (ifd (fun e0 => ?_) fun m0 => ?_)))))
    · refine x_at (i := 2) (u := strV p2) (h.osl (v := v)) rfl ?_
      refine unhexr_spec h (by omega) fun q W oq h => a_ext0 (a_ext1 ?_)
      rw [unhD_R] at h
      refine ⟨St w0 G0 (Ky q (BO ((unhR p2).getD [])) :: Ky b5 (PdO Pts.zero) :: Ky v (Ow 9 1 [p0, p1, p2].length ([p0, p1, p2].map strV)) :: Ky b2 (PdO Pts.zero) :: l), h.drew, ?_⟩
      replace h := h.drew
      refine x_sat (i := 1) (u := strV p1) (h.osl (v := v)) (fun w hw => hw.osl (v := v)) rfl ?_
      refine s_str (l := (unhR p2).getD []) (fun w hw => hw.osl (v := q)) ?_
      refine x_bld (cells := #[.int .i64 3, strV [], strV p1, strV [], strV ((unhR p2).getD []), .int .i64 0]) (by kernel_rfl) ?_
      refine h.storeS (b := b5) (cs' := [.int .i64 3, strV [], strV p1, strV [], strV ((unhR p2).getD []), .int .i64 0]) fun W h => ⟨rfl, ?_⟩
      rw [show docX [p0, p1, p2] = Pts.mk 3 [] p1 [] ((unhR p2).getD []) 0 by subst e0; rfl]
      exact h.to
    refine jni (EndM w0 l s b2 b5 [p0, p1, p2]) (by rintro vs W' _ ⟨rfl, h⟩; exact app3 ⟨rfl, h⟩) ?_
    refine x_lenS (h.osl (v := v)) (w_eql (ifd_pos rfl (x_at (i := 0) (u := strV p0) (h.osl (v := v)) rfl (w_eqlL (ifd (fun e0 => ?_) fun m1 => ?_)))))
    · refine ⟨St w0 G0 (Ky b5 (PdO Pts.zero) :: Ky v (Ow 9 1 [p0, p1, p2].length ([p0, p1, p2].map strV)) :: Ky b2 (PdO Pts.zero) :: l), h.drew, ?_⟩
      replace h := h.drew
      refine x_sat (i := 1) (u := strV p1) (h.osl (v := v)) (fun w hw => hw.osl (v := v)) rfl ?_
      refine x_sat (i := 2) (u := strV p2) (h.osl (v := v)) (fun w hw => hw.osl (v := v)) rfl ?_
      refine x_bld (cells := #[.int .i64 4, strV p1, strV p2, strV [], strV [], .int .i64 0]) (by kernel_rfl) ?_
      refine h.storeS (b := b5) (cs' := [.int .i64 4, strV p1, strV p2, strV [], strV [], .int .i64 0]) fun W h => ⟨rfl, ?_⟩
      rw [show docX [p0, p1, p2] = Pts.mk 4 p1 p2 [] [] 0 by subst e0; rfl]
      exact h.to
    refine jni (EndM w0 l s b2 b5 [p0, p1, p2]) (by rintro vs W' _ ⟨rfl, h⟩; exact app3 ⟨rfl, h⟩) ?_
    refine x_lenS (h.osl (v := v)) (w_eql (ifd_pos rfl (x_at (i := 0) (u := strV p0) (h.osl (v := v)) rfl (w_eqlL (ifd (fun e0 => ?_) fun m2 => ?_)))))
    · refine ⟨St w0 G0 (Ky b5 (PdO Pts.zero) :: Ky v (Ow 9 1 [p0, p1, p2].length ([p0, p1, p2].map strV)) :: Ky b2 (PdO Pts.zero) :: l), h.drew, ?_⟩
      replace h := h.drew
      refine x_sat (i := 1) (u := strV p1) (h.osl (v := v)) (fun w hw => hw.osl (v := v)) rfl ?_
      refine x_sat (i := 2) (u := strV p2) (h.osl (v := v)) (fun w hw => hw.osl (v := v)) rfl ?_
      refine x_bld (cells := #[.int .i64 5, strV p1, strV [], strV p2, strV [], .int .i64 0]) (by kernel_rfl) ?_
      refine h.storeS (b := b5) (cs' := [.int .i64 5, strV p1, strV [], strV p2, strV [], .int .i64 0]) fun W h => ⟨rfl, ?_⟩
      rw [show docX [p0, p1, p2] = Pts.mk 5 p1 [] p2 [] 0 by subst e0; rfl]
      exact h.to
    refine jni (EndM w0 l s b2 b5 [p0, p1, p2]) (by rintro vs W' _ ⟨rfl, h⟩; exact app3 ⟨rfl, h⟩) ?_
    refine x_lenS (h.osl (v := v)) (w_eql (ifd_neg (show ¬ ((3 : Nat) : Int) = 4 by decide) ?_))
    refine jni (EndM w0 l s b2 b5 [p0, p1, p2]) (by rintro vs W' _ ⟨rfl, h⟩; exact app3 ⟨rfl, h⟩) ?_
    refine x_lenS (h.osl (v := v)) (w_eql (ifd_pos rfl (x_at (i := 0) (u := strV p0) (h.osl (v := v)) rfl (w_eqlL (ifd (fun e0 => ?_) fun m4 => ?_)))))
    · refine ⟨St w0 G0 (Ky b5 (PdO Pts.zero) :: Ky v (Ow 9 1 [p0, p1, p2].length ([p0, p1, p2].map strV)) :: Ky b2 (PdO Pts.zero) :: l), h.drew, ?_⟩
      replace h := h.drew
      refine x_sat (i := 1) (u := strV p1) (h.osl (v := v)) (fun w hw => hw.osl (v := v)) rfl ?_
      refine x_sat (i := 2) (u := strV p2) (h.osl (v := v)) (fun w hw => hw.osl (v := v)) rfl ?_
      refine x_bld (cells := #[.int .i64 7, strV p1, strV p2, strV [], strV [], .int .i64 0]) (by kernel_rfl) ?_
      refine h.storeS (b := b5) (cs' := [.int .i64 7, strV p1, strV p2, strV [], strV [], .int .i64 0]) fun W h => ⟨rfl, ?_⟩
      rw [show docX [p0, p1, p2] = Pts.mk 7 p1 p2 [] [] 0 by subst e0; rfl]
      exact h.to
    refine ⟨rfl, ?_⟩
    rw [show docX [p0, p1, p2] = Pts.zero by unfold docX; simp only [n2, m0, m1, m2, m4, if_false]]
    exact h.to
  by_cases c4 : L.length = 4
  · obtain ⟨p0, p1, p2, p3, rfl⟩ : ∃ p0 p1 p2 p3, L = [p0, p1, p2, p3] := by
      clear endd h hlen c2 c3
      match L, c4 with
      | [a, b, c, d], _ => exact ⟨a, b, c, d, rfl⟩
    clear c2 c3 c4
    have l0 := hlen p0 (by simp)
    have l1 := hlen p1 (by simp)
    have l2 := hlen p2 (by simp)
    have l3 := hlen p3 (by simp)
    refine jni (fun vs W' => vs = [strV s, .pointer (some ⟨b2, 0, none⟩), v, .pointer (some ⟨b5, 0, none⟩), .bool (false)] ∧ St w0 G0 (Ky b5 (PdO Pts.zero) :: Ky v (Ow 9 1 [p0, p1, p2, p3].length ([p0, p1, p2, p3].map strV)) :: Ky b2 (PdO Pts.zero) :: l) W') ?_ ?_
    rotate_left
    · exact x_lenS (h.osl (v := v)) (w_eql (ifd_neg (show ¬ ((4 : Nat) : Int) = 2 by decide) ⟨rfl, h⟩))
    clear h
    rintro vs W _ ⟨rfl, h⟩
    refine app5 ?_
    refine jni (EndM w0 l s b2 b5 [p0, p1, p2, p3]) (fun vs W' _ h => endd vs W' h) ?_
    refine iff' ?_
    refine jni (fun vs W' => vs = [strV s, .pointer (some ⟨b2, 0, none⟩), v, .pointer (some ⟨b5, 0, none⟩), .bool (false)] ∧ St w0 G0 (Ky b5 (PdO Pts.zero) :: Ky v (Ow 9 1 [p0, p1, p2, p3].length ([p0, p1, p2, p3].map strV)) :: Ky b2 (PdO Pts.zero) :: l) W') ?_ ?_
    rotate_left
    · exact x_lenS (h.osl (v := v)) (w_eql (ifd_neg (show ¬ ((4 : Nat) : Int) = 3 by decide) ⟨rfl, h⟩))
    clear h
    rintro vs W _ ⟨rfl, h⟩
    refine app5 ?_
    refine jni (EndM w0 l s b2 b5 [p0, p1, p2, p3]) (by rintro vs W' _ ⟨rfl, h⟩; exact app3 ⟨rfl, h⟩) ?_
    refine iff' ?_
    refine jni (EndM w0 l s b2 b5 [p0, p1, p2, p3]) (by rintro vs W' _ ⟨rfl, h⟩; exact app3 ⟨rfl, h⟩) ?_
    refine x_lenS (h.osl (v := v)) (w_eql (ifd_neg (show ¬ ((4 : Nat) : Int) = 3 by decide) ?_))
    refine jni (EndM w0 l s b2 b5 [p0, p1, p2, p3]) (by rintro vs W' _ ⟨rfl, h⟩; exact app3 ⟨rfl, h⟩) ?_
    refine x_lenS (h.osl (v := v)) (w_eql (ifd_neg (show ¬ ((4 : Nat) : Int) = 3 by decide) ?_))
    refine jni (EndM w0 l s b2 b5 [p0, p1, p2, p3]) (by rintro vs W' _ ⟨rfl, h⟩; exact app3 ⟨rfl, h⟩) ?_
    refine x_lenS (h.osl (v := v)) (w_eql (ifd_neg (show ¬ ((4 : Nat) : Int) = 3 by decide) ?_))
    refine jni (EndM w0 l s b2 b5 [p0, p1, p2, p3]) (by rintro vs W' _ ⟨rfl, h⟩; exact app3 ⟨rfl, h⟩) ?_
    refine x_lenS (h.osl (v := v)) (w_eql (ifd_pos rfl (x_at (i := 0) (u := strV p0) (h.osl (v := v)) rfl (w_eqlL (ifd (fun e0 => ?_) fun m3 => ?_)))))
    · refine ⟨St w0 G0 (Ky b5 (PdO Pts.zero) :: Ky v (Ow 9 1 [p0, p1, p2, p3].length ([p0, p1, p2, p3].map strV)) :: Ky b2 (PdO Pts.zero) :: l), h.drew, ?_⟩
      replace h := h.drew
      refine x_sat (i := 1) (u := strV p1) (h.osl (v := v)) (fun w hw => hw.osl (v := v)) rfl ?_
      refine x_sat (i := 2) (u := strV p2) (h.osl (v := v)) (fun w hw => hw.osl (v := v)) rfl ?_
      refine x_sat (i := 3) (u := strV p3) (h.osl (v := v)) (fun w hw => hw.osl (v := v)) rfl ?_
      refine rnumb_spec (by omega) ⟨h, ?_⟩
      refine x_bld (cells := #[.int .i64 6, strV p1, strV p2, strV [], strV [], .int .i64 (numD p3)]) (by kernel_rfl) ?_
      refine h.storeS (b := b5) (cs' := [.int .i64 6, strV p1, strV p2, strV [], strV [], .int .i64 (numD p3)]) fun W h => ⟨rfl, ?_⟩
      rw [show docX [p0, p1, p2, p3] = Pts.mk 6 p1 p2 [] [] (numD p3) by subst e0; rfl]
      exact h.to
    refine jni (EndM w0 l s b2 b5 [p0, p1, p2, p3]) (by rintro vs W' _ ⟨rfl, h⟩; exact app3 ⟨rfl, h⟩) ?_
    refine x_lenS (h.osl (v := v)) (w_eql (ifd_neg (show ¬ ((4 : Nat) : Int) = 3 by decide) ?_))
    refine ⟨rfl, ?_⟩
    rw [show docX [p0, p1, p2, p3] = Pts.zero by unfold docX; simp only [m3, if_false]]
    exact h.to
  refine jni (fun vs W' => vs = [strV s, .pointer (some ⟨b2, 0, none⟩), v, .pointer (some ⟨b5, 0, none⟩), .bool (false)] ∧ St w0 G0 (Ky b5 (PdO Pts.zero) :: Ky v (Ow 9 1 L.length (L.map strV)) :: Ky b2 (PdO Pts.zero) :: l) W') ?_ ?_
  rotate_left
  · exact x_lenS (h.osl (v := v)) (w_eql (ifd_neg (by omega) ⟨rfl, h⟩))
  clear h
  rintro vs W _ ⟨rfl, h⟩
  refine app5 ?_
  refine jni (EndM w0 l s b2 b5 L) (fun vs W' _ h => endd vs W' h) ?_
  refine iff' ?_
  refine jni (fun vs W' => vs = [strV s, .pointer (some ⟨b2, 0, none⟩), v, .pointer (some ⟨b5, 0, none⟩), .bool (false)] ∧ St w0 G0 (Ky b5 (PdO Pts.zero) :: Ky v (Ow 9 1 L.length (L.map strV)) :: Ky b2 (PdO Pts.zero) :: l) W') ?_ ?_
  rotate_left
  · exact x_lenS (h.osl (v := v)) (w_eql (ifd_neg (by omega) ⟨rfl, h⟩))
  clear h
  rintro vs W _ ⟨rfl, h⟩
  refine app5 ?_
  refine jni (EndM w0 l s b2 b5 L) (by rintro vs W' _ ⟨rfl, h⟩; exact app3 ⟨rfl, h⟩) ?_
  refine iff' ?_
  refine jni (EndM w0 l s b2 b5 L) (by rintro vs W' _ ⟨rfl, h⟩; exact app3 ⟨rfl, h⟩) ?_
  refine x_lenS (h.osl (v := v)) (w_eql (ifd_neg (by omega) ?_))
  refine jni (EndM w0 l s b2 b5 L) (by rintro vs W' _ ⟨rfl, h⟩; exact app3 ⟨rfl, h⟩) ?_
  refine x_lenS (h.osl (v := v)) (w_eql (ifd_neg (by omega) ?_))
  refine jni (EndM w0 l s b2 b5 L) (by rintro vs W' _ ⟨rfl, h⟩; exact app3 ⟨rfl, h⟩) ?_
  refine x_lenS (h.osl (v := v)) (w_eql (ifd_neg (by omega) ?_))
  refine jni (EndM w0 l s b2 b5 L) (by rintro vs W' _ ⟨rfl, h⟩; exact app3 ⟨rfl, h⟩) ?_
  refine x_lenS (h.osl (v := v)) (w_eql (ifd_neg (by omega) ?_))
  refine jni (EndM w0 l s b2 b5 L) (by rintro vs W' _ ⟨rfl, h⟩; exact app3 ⟨rfl, h⟩) ?_
  refine x_lenS (h.osl (v := v)) (w_eql (ifd_neg (by omega) ?_))
  refine ⟨rfl, ?_⟩
  rw [docX_far (by omega) (by omega) (by omega)]
  exact h.to
end
end Go.Proofs.YtgflkjhljggeiaaDoor
