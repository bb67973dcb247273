/-
  KEYS: the document's Key, Prefix, parts.
-/
import Derived.Test.YtgflkjhljggeiaaDoorKyI
import Derived.KernelRfl
namespace Go.Ez
open Go Go.Lib
theorem jn1_val (m f : Txt) : jnS m [f] = if nameS f = true then m ++ 47 :: f else [] := by unfold jnS slash; simp
theorem jn2_val (m f g : Txt) : jnS m [f, g] = if nameS f = true ∧ nameS g = true then m ++ 47 :: (f ++ 47 :: g) else [] := by unfold jnS slash slash; simp
end Go.Ez
namespace Go.Proofs.YtgflkjhljggeiaaDoor
open Go Go.Ez Go.RowKit Go.Lib
set_option linter.unusedSimpArgs false
set_option linter.unusedVariables false
abbrev PdO (p : Pts) : Nat → As := Ob (.cells [.int .i64 p.kind, strV p.user, strV p.feed, strV p.name, strV p.guid, .int .i64 p.num].toArray 31 (0, 0))
section
variable {w0 W W' : World} {l R : List As} {RR : Value → World → Prop} {t s : Txt} {b : Nat} {v : Value}
/-- hbllaw14.parts -/
theorem parts_spec {p : Pts} (h : St w0 G0 l W) (k : ∀ W', St w0 G0 l W' → RR (ptV p) W') : CallF Tryd.prog 13 #[ptV p] W RR := by
  refine sh13_calls ?_
  unfold sh13 ptV
  refine h.boxS (cs := [.int .i64 p.kind, strV p.user, strV p.feed, strV p.name, strV p.guid, .int .i64 p.num]) fun b W h => ?_
  refine h.allocS fun b2 W h => ?_
  refine a_fld0 (h.load ?_)
  refine a_fld0 (h.load ?_)
  refine a_fld0 (h.load ?_)
  refine a_fld0 (h.load ?_)
  refine a_fld0 (h.load ?_)
  refine a_fld0 (h.load ?_)
  refine x_bld (cells := #[.int .i64 p.kind, strV p.user, strV p.feed, strV p.name, strV p.guid, .int .i64 p.num]) (by kernel_rfl) ?_
  refine h.storeS (b := b2) (cs' := [.int .i64 p.kind, strV p.user, strV p.feed, strV p.name, strV p.guid, .int .i64 p.num]) fun W h => ?_
  refine h.loadS ?_
  exact k W h.to
/-- hblref14.Prefix -/
def prefS (kind : Int) (u f : Txt) : Txt :=
  if kind = 4 then bgn (jnS [115] [u]) else if kind = 5 then bgn (jnS [100] [u]) else if kind = 2 then bgn (jnS [101] [f]) else if kind = 6 then bgn (jnS [114] [u, f]) else []
theorem bgn1 (m f : Txt) (hm : m ≠ []) : bgn (jnS m [f]) = if nameS f = true then m ++ 47 :: (f ++ [47]) else [] := by
  rw [jn1_val]
  by_cases h : nameS f = true
  · rw [if_pos h, if_pos h]; unfold bgn; rw [if_neg (by simp)]; simp
  · rw [if_neg h, if_neg h]; rfl
theorem bgn2 (m f g : Txt) (hm : m ≠ []) : bgn (jnS m [f, g]) = if nameS f = true ∧ nameS g = true then m ++ 47 :: (f ++ 47 :: (g ++ [47])) else [] := by
  rw [jn2_val]
  by_cases h : nameS f = true ∧ nameS g = true
  · rw [if_pos h, if_pos h]; unfold bgn; rw [if_neg (by simp)]; simp
  · rw [if_neg h, if_neg h]; rfl
/-- hblref14.Key -/
theorem rkey_spec {p : Pts} (h : St w0 G0 l W) (h1 : p.user.length ≤ 1000000) (h2 : p.feed.length ≤ 1000000) (h3 : p.name.length ≤ 1000000) (hg : p.guid.length ≤ 1000000) (h4 : p.num ≤ 9223372036854775807) (k : ∀ W', St w0 G0 l W' → RR (strV (keyS p)) W') :
    CallF Tryd.prog 12 #[ptV p] W RR := by
  refine sh12_calls ?_
  unfold sh12 ptV
  refine h.boxS (cs := [.int .i64 p.kind, strV p.user, strV p.feed, strV p.name, strV p.guid, .int .i64 p.num]) fun b W h => ?_
  replace h : St w0 G0 (Ky b (PdO p) :: l) W := h
  refine a_fld0 (h.load ?_)
  refine rdig_spec h h4 fun W h => a_ext0 (a_ext1 ?_)
  refine ⟨St w0 G0 (Ky b (PdO p) :: l), h.drew, ?_⟩
  replace h := h.drew
  refine a_fld0 (ss_load (a_fld0 (ss_load ?_)))
  refine rname_spec (by omega) ⟨h, rname_spec (by omega) ?_⟩
  have hd : (digR p.num 6).1.length ≤ 20 := by
    unfold digR
    split
    · simp
    · rw [dgs_len]; decide
  have fin : ∀ W', St w0 G0 (Ky b (PdO p) :: l) W' → ∀ x, keyS p = x → RR (strV x) W' := fun W' h x e => by rw [← e]; exact k W' h.tail
  unfold keyS numb guidS at fin
  simp only [jn1_val, jn2_val] at fin
  generalize (digR p.num 6).1 = d at *
  generalize (digR p.num 6).2 = ok at *
  generalize hu : nameS p.user = u at *
  generalize hf : nameS p.feed = f at *
  refine jni (fun vs W' => ∃ x : Bool, vs = [.pointer (some ⟨b, 0, none⟩), strV d, .bool ok, .bool u, .bool f, .bool x] ∧ (p.kind = 1 → x = (f)) ∧ (¬ p.kind = 1 → x = false) ∧ St w0 G0 (Ky b (PdO p) :: l) W') ?_ ?_
  rotate_left
  · refine a_fld0 (h.load (w_eql (ifd (fun e => ?_) fun e => ⟨_, rfl, fun e' => absurd e' e, fun _ => rfl, h⟩)))
    exact ⟨_, rfl, fun _ => rfl, fun e' => absurd e e', h⟩
  clear h
  rintro vs W _ ⟨x, rfl, x1, x2, h⟩
  refine app6 ?_
  refine ifb (fun hx => ?_) fun hx => ?_
  · have e1 : p.kind = 1 := Classical.byContradiction fun hn => by rw [x2 hn] at hx; cases hx
    have hc := (x1 e1).symm.trans hx
    refine a_fld0 (h.load (a_cat (l := [102, 47]) (by simp; omega) (fin W h _ ?_)))
    rw [if_pos e1, hc]; simp
  have m1 : p.kind = 1 → (f) = false := fun e => (x1 e).symm.trans hx
  clear x1 x2 hx
  refine jni (fun vs W' => ∃ x : Bool, vs = [.pointer (some ⟨b, 0, none⟩), strV d, .bool ok, .bool u, .bool f, .bool x] ∧ (p.kind = 2 → x = (f && ok)) ∧ (¬ p.kind = 2 → x = false) ∧ St w0 G0 (Ky b (PdO p) :: l) W') ?_ ?_
  rotate_left
  · refine a_fld0 (h.load (w_eql (ifd (fun e => ?_) fun e => ⟨_, rfl, fun e' => absurd e' e, fun _ => rfl, h⟩)))
    refine ifb (fun c => ?_) fun c => ?_
    · exact ⟨_, rfl, fun _ => by rw [c]; rfl, fun e' => absurd e e', h⟩
    · exact ⟨_, rfl, fun _ => by rw [c]; rfl, fun e' => absurd e e', h⟩
  clear h
  rintro vs W _ ⟨x, rfl, x1, x2, h⟩
  refine app6 ?_
  refine ifb (fun hx => ?_) fun hx => ?_
  · have e2 : p.kind = 2 := Classical.byContradiction fun hn => by rw [x2 hn] at hx; cases hx
    have hc := (x1 e2).symm.trans hx
    have n1 : ¬ p.kind = 1 := by omega
    refine a_fld0 (h.load (a_cat (l := [101, 47]) (by simp; omega) (a_cat (m := [47]) (by simp; omega) (a_cat (by simp; omega) (fin W h _ ?_)))))
    obtain ⟨c1, c2⟩ := Bool.and_eq_true_iff.1 hc
    rw [if_neg n1, if_pos e2, c1, c2]; simp
  have m2 : p.kind = 2 → (f && ok) = false := fun e => (x1 e).symm.trans hx
  clear x1 x2 hx
  refine jni (fun vs W' => ∃ x : Bool, vs = [.pointer (some ⟨b, 0, none⟩), strV d, .bool ok, .bool u, .bool f, .bool x] ∧ (p.kind = 3 → x = (f && (decide (1 ≤ p.guid.length) && decide (p.guid.length ≤ 500)))) ∧ (¬ p.kind = 3 → x = false) ∧ St w0 G0 (Ky b (PdO p) :: l) W') ?_ ?_
  rotate_left
  · refine a_fld0 (h.load (w_eql (ifd (fun e => ?_) fun e => ⟨_, rfl, fun e' => absurd e' e, fun _ => rfl, h⟩)))
    refine ifb (fun c => ?_) fun c => ⟨_, rfl, fun _ => by rw [c]; rfl, fun e' => absurd e e', h⟩
    refine a_fld0 (h.load (x_len (a_geq (ifd (fun c2 => ?_) fun c2 => ⟨_, rfl, fun _ => by rw [c, decide_eq_false (by omega)]; rfl, fun e' => absurd e e', h⟩))))
    refine a_fld0 (h.load (x_len (a_leq ⟨_, rfl, fun _ => ?_, fun e' => absurd e e', h⟩)))
    rw [c, decide_eq_true (show 1 ≤ p.guid.length by omega)]
    exact decide_eq_decide.2 ⟨fun e => by omega, fun e => by omega⟩
  clear h
  rintro vs W _ ⟨x, rfl, x1, x2, h⟩
  refine app6 ?_
  refine ifb (fun hx => ?_) fun hx => ?_
  · have e3 : p.kind = 3 := Classical.byContradiction fun hn => by rw [x2 hn] at hx; cases hx
    have hc := (x1 e3).symm.trans hx
    have n1 : ¬ p.kind = 1 := by omega
    have n2 : ¬ p.kind = 2 := by omega
    refine ⟨St w0 G0 (Ky b (PdO p) :: l), h.drew, ?_⟩
    replace h := h.drew
    refine a_fld0 (ss_load (a_cat (l := [103, 47]) (by simp; omega) (a_cat (m := [47]) (by simp; omega) (a_fld0 (ss_load ?_)))))
    refine x_byt fun q W2 hq hb => ?_
    replace h := h.ext hb
    refine ⟨h, ?_⟩
    refine hexr_spec hq (by omega) fun W3 hb3 => ?_
    replace h := h.ext hb3
    refine ⟨h, ?_⟩
    have hl := hexS_len p.guid
    refine a_cat (by simp; omega) (fin W3 h _ ?_)
    obtain ⟨c1, c2⟩ := Bool.and_eq_true_iff.1 hc
    obtain ⟨c2, c3⟩ := Bool.and_eq_true_iff.1 c2
    have c2 := of_decide_eq_true c2
    have c3 := of_decide_eq_true c3
    have c4 : ¬ (p.guid = [] ∨ 500 < p.guid.length) := by
      rintro (e | e)
      · rw [e] at c2; simp at c2
      · omega
    rw [if_neg n1, if_neg n2, if_pos e3, c1]
    simp only [if_true]
    rw [if_neg (fun hh => hh.elim (fun e => by simp at e) fun e => c4 e)]; simp
  have m3 : p.kind = 3 → (f && (decide (1 ≤ p.guid.length) && decide (p.guid.length ≤ 500))) = false := fun e => (x1 e).symm.trans hx
  clear x1 x2 hx
  refine jni (fun vs W' => ∃ x : Bool, vs = [.pointer (some ⟨b, 0, none⟩), strV d, .bool ok, .bool u, .bool f, .bool x] ∧ (p.kind = 4 → x = (u && f)) ∧ (¬ p.kind = 4 → x = false) ∧ St w0 G0 (Ky b (PdO p) :: l) W') ?_ ?_
  rotate_left
  · refine a_fld0 (h.load (w_eql (ifd (fun e => ?_) fun e => ⟨_, rfl, fun e' => absurd e' e, fun _ => rfl, h⟩)))
    refine ifb (fun c => ?_) fun c => ?_
    · exact ⟨_, rfl, fun _ => by rw [c]; rfl, fun e' => absurd e e', h⟩
    · exact ⟨_, rfl, fun _ => by rw [c]; rfl, fun e' => absurd e e', h⟩
  clear h
  rintro vs W _ ⟨x, rfl, x1, x2, h⟩
  refine app6 ?_
  refine ifb (fun hx => ?_) fun hx => ?_
  · have e4 : p.kind = 4 := Classical.byContradiction fun hn => by rw [x2 hn] at hx; cases hx
    have hc := (x1 e4).symm.trans hx
    have n1 : ¬ p.kind = 1 := by omega
    have n2 : ¬ p.kind = 2 := by omega
    have n3 : ¬ p.kind = 3 := by omega
    refine a_fld0 (h.load (a_cat (l := [115, 47]) (by simp; omega) (a_cat (m := [47]) (by simp; omega) (a_fld0 (h.load (a_cat (by simp; omega) (fin W h _ ?_)))))))
    obtain ⟨c1, c2⟩ := Bool.and_eq_true_iff.1 hc
    rw [if_neg n1, if_neg n2, if_neg n3, if_pos e4, c1, c2]; simp
  have m4 : p.kind = 4 → (u && f) = false := fun e => (x1 e).symm.trans hx
  clear x1 x2 hx
  refine jni (fun vs W' => ∃ x : Bool, vs = [.pointer (some ⟨b, 0, none⟩), strV d, .bool ok, .bool u, .bool f, .bool x] ∧ (p.kind = 5 → x = (u && nameS p.name)) ∧ (¬ p.kind = 5 → x = false) ∧ St w0 G0 (Ky b (PdO p) :: l) W') ?_ ?_
  rotate_left
  · refine a_fld0 (h.load (w_eql (ifd (fun e => ?_) fun e => ⟨_, rfl, fun e' => absurd e' e, fun _ => rfl, h⟩)))
    refine ifb (fun c => ?_) fun c => ⟨_, rfl, fun _ => by rw [c]; rfl, fun e' => absurd e e', h⟩
    refine a_fld0 (h.load (rname_spec (by omega) ⟨_, rfl, fun _ => by rw [c]; rfl, fun e' => absurd e e', h⟩))
  clear h
  rintro vs W _ ⟨x, rfl, x1, x2, h⟩
  refine app6 ?_
  refine ifb (fun hx => ?_) fun hx => ?_
  · have e5 : p.kind = 5 := Classical.byContradiction fun hn => by rw [x2 hn] at hx; cases hx
    have hc := (x1 e5).symm.trans hx
    have n1 : ¬ p.kind = 1 := by omega
    have n2 : ¬ p.kind = 2 := by omega
    have n3 : ¬ p.kind = 3 := by omega
    have n4 : ¬ p.kind = 4 := by omega
    refine a_fld0 (h.load (a_cat (l := [100, 47]) (by simp; omega) (a_cat (m := [47]) (by simp; omega) (a_fld0 (h.load (a_cat (by simp; omega) (fin W h _ ?_)))))))
    obtain ⟨c1, c2⟩ := Bool.and_eq_true_iff.1 hc
    rw [if_neg n1, if_neg n2, if_neg n3, if_neg n4, if_pos e5, c1, c2]; simp
  have m5 : p.kind = 5 → (u && nameS p.name) = false := fun e => (x1 e).symm.trans hx
  clear x1 x2 hx
  refine jni (fun vs W' => ∃ x : Bool, vs = [.pointer (some ⟨b, 0, none⟩), strV d, .bool u, .bool f, .bool x] ∧ (p.kind = 6 → x = (u && (f && ok))) ∧ (¬ p.kind = 6 → x = false) ∧ St w0 G0 (Ky b (PdO p) :: l) W') ?_ ?_
  rotate_left
  · refine a_fld0 (h.load (w_eql (ifd (fun e => ?_) fun e => ⟨_, rfl, fun e' => absurd e' e, fun _ => rfl, h⟩)))
    refine ifb (fun c => ?_) fun c => ⟨_, rfl, fun _ => by rw [c]; rfl, fun e' => absurd e e', h⟩
    refine ifb (fun c2 => ?_) fun c2 => ?_
    · exact ⟨_, rfl, fun _ => by rw [c, c2]; rfl, fun e' => absurd e e', h⟩
    · exact ⟨_, rfl, fun _ => by rw [c, c2]; rfl, fun e' => absurd e e', h⟩
  clear h
  rintro vs W _ ⟨x, rfl, x1, x2, h⟩
  refine app5 ?_
  refine ifb (fun hx => ?_) fun hx => ?_
  · have e6 : p.kind = 6 := Classical.byContradiction fun hn => by rw [x2 hn] at hx; cases hx
    have hc := (x1 e6).symm.trans hx
    have n1 : ¬ p.kind = 1 := by omega
    have n2 : ¬ p.kind = 2 := by omega
    have n3 : ¬ p.kind = 3 := by omega
    have n4 : ¬ p.kind = 4 := by omega
    have n5 : ¬ p.kind = 5 := by omega
    refine a_fld0 (h.load (a_cat (l := [114, 47]) (by simp; omega) (a_cat (m := [47]) (by simp; omega) (a_fld0 (h.load (a_cat (by simp; omega) (a_cat (m := [47]) (by simp; omega) (a_cat (by simp; omega) (fin W h _ ?_)))))))))
    obtain ⟨c1, c2⟩ := Bool.and_eq_true_iff.1 hc
    obtain ⟨c2, c3⟩ := Bool.and_eq_true_iff.1 c2
    rw [if_neg n1, if_neg n2, if_neg n3, if_neg n4, if_neg n5, if_pos e6, c1, c2, c3]; simp
  have m6 : p.kind = 6 → (u && (f && ok)) = false := fun e => (x1 e).symm.trans hx
  clear x1 x2 hx
  have none : (p.kind = 7 → (u && f) = false) → RR (.string ⟨#[]⟩) W := fun m7 => by
    refine fin W h [] ?_
    by_cases e1 : p.kind = 1
    · have := m1 e1
      rw [if_pos e1, this]; rfl
    rw [if_neg e1]
    by_cases e2 : p.kind = 2
    · have := m2 e2
      rw [if_pos e2]
      cases f
      · simp
      · simp at this; rw [this]; simp
    rw [if_neg e2]
    by_cases e3 : p.kind = 3
    · have := m3 e3
      rw [if_pos e3]
      cases f
      · simp
      · simp only [Bool.true_and, Bool.and_eq_false_iff, decide_eq_false_iff_not] at this
        rw [if_pos]
        rcases this with e | e
        · exact .inr (.inl (List.eq_nil_of_length_eq_zero (by omega)))
        · exact .inr (.inr (by omega))
    rw [if_neg e3]
    by_cases e4 : p.kind = 4
    · have := m4 e4
      rw [if_pos e4]
      cases u <;> simp at this ⊢ <;> (try rw [this]) <;> (try simp)
    rw [if_neg e4]
    by_cases e5 : p.kind = 5
    · have := m5 e5
      rw [if_pos e5]
      cases u <;> simp at this ⊢ <;> (try rw [this]) <;> (try simp)
    rw [if_neg e5]
    by_cases e6 : p.kind = 6
    · have := m6 e6
      rw [if_pos e6]
      cases u
      · simp
      · cases f
        · simp
        · simp at this; rw [this]; simp
    rw [if_neg e6]
    by_cases e7 : p.kind = 7
    · have := m7 e7
      rw [if_pos e7]
      cases u <;> simp at this ⊢ <;> (try rw [this]) <;> (try simp)
    rw [if_neg e7]
  refine jni (fun vs W' => vs = [] ∧ (p.kind = 7 → (u && f) = false) ∧ W' = W) (by rintro vs W' _ ⟨rfl, m7, rfl⟩; exact app0 (none m7)) ?_
  refine a_fld0 (h.load (w_eql (ifd (fun e7 => ?_) fun e7 => ⟨rfl, fun e => absurd e e7, rfl⟩)))
  refine ifb (fun c => ?_) fun c => ⟨rfl, fun _ => by rw [c]; rfl, rfl⟩
  refine ifb (fun c2 => ?_) fun c2 => ⟨rfl, fun _ => by rw [c, c2]; rfl, rfl⟩
  refine a_fld0 (h.load (a_cat (l := [109, 47]) (by simp; omega) (a_cat (m := [47]) (by simp; omega) (a_fld0 (h.load (a_cat (by simp; omega) (fin W h _ ?_)))))))
  rw [if_neg (by omega), if_neg (by omega), if_neg (by omega), if_neg (by omega), if_neg (by omega), if_neg (by omega), if_pos e7, c, c2]; simp
end
end Go.Proofs.YtgflkjhljggeiaaDoor
