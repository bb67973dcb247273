/-
  Parts of the proofs of FeedOnce, FeedKinds, FeedMore.
-/
import Derived.Test.YtlflpbflpcmckaaGreatDoorPkFeedD
import Derived.Laws.Cover1
import Derived.Laws.StructEq
import Derived.Lib.ValidLaws
namespace Go.Proofs.YtlflpbflpcmckaaGreatDoor
open Go Go.Ez Go.RowKit
set_option linter.unusedSimpArgs false
set_option linter.unusedVariables false
/-- a reader: the text left, is it none? -/
abbrev RdO (x : Txt × Bool) : Nat → As := Ob (.cells [strV x.1, .bool x.2].toArray 197 (0, 0))
section
variable {w0 W W' : World} {G : Nat → Prop} {l R R1 : List As} {RR : Value → World → Prop} {x : Txt × Bool} {b : Nat} {p s : Txt}
theorem hasPre_spec (k : RR (.bool (isPreD p s)) W) : CallF Tryz.prog 103 #[strV s, strV p] W RR := by
  refine sh103_calls ?_
  unfold sh103
  refine x_len (x_len (a_geq (ifd (fun hc => ?_) fun hc => ?_)))
  · refine x_len (x_cutH (by omega) (w_eqlL ?_))
    exact k
  · have : isPreD p s = false := by
      unfold isPreD
      refine decide_eq_false fun e => hc ?_
      have := congrArg List.length e
      rw [List.length_take] at this
      omega
    rw [this] at k
    exact k
theorem isPreD_len (h : isPreD p s = true) : p.length ≤ s.length := by
  have := congrArg List.length (of_decide_eq_true h)
  rw [List.length_take] at this
  omega
theorem cutPre_spec (k : RR (.tuple #[strV (eatS s p), .bool (isPreD p s)]) W) : CallF Tryz.prog 173 #[strV s, strV p] W RR := by
  refine sh173_calls ?_
  unfold sh173
  refine sh182_calls ?_
  unfold sh182
  refine hasPre_spec (a_not (ifnb (fun hp => ?_) fun hp => ?_))
  · rw [show eatS s p = s from eatS_no hp, hp] at k
    exact a_ext0 (a_ext1 k)
  · rw [show eatS s p = s.drop p.length by unfold eatS; rw [hp]; rfl, hp] at k
    refine x_len (x_cutL (isPreD_len hp) ?_)
    exact a_ext0 (a_ext1 k)
/-- eats -/
theorem eats_spec [i : Has l b (RdO x) R] (h : St w0 G l W) (k : ∀ W', St w0 G (Ky b (RdO (eatS x.1 p, x.2)) :: R) W' → RR (.bool (isPreD p x.1)) W') : CallF Tryz.prog 161 #[.pointer (some ⟨b, 0, none⟩), strV p] W RR := by
  refine sh161_calls ?_
  unfold sh161
  replace h := h.find (k := b) (X := RdO x)
  refine a_nil (a_fld0 (h.load ?_))
  refine cutPre_spec (a_ext0 (a_ext1 ?_))
  refine jni (fun vs W' => vs = [.bool (isPreD p x.1)] ∧ St w0 G (Ky b (RdO (eatS x.1 p, x.2)) :: R) W') (by rintro vs W' _ ⟨rfl, h⟩; exact app1 (k W' h)) ?_
  refine ifb (fun hp => ?_) fun hp => ?_
  · refine a_nil (a_fld0 (h.store fun W' h => ?_))
    exact ⟨by rw [hp], h⟩
  · refine ⟨by rw [hp], ?_⟩
    rw [eatS_no hp]; exact h
/-- wants -/
theorem dwants_spec [i : Has l b (RdO x) R] (h : St w0 G l W) (k : ∀ W', St w0 G (Ky b (RdO (wantsP p x)) :: R) W' → RR (.tuple #[]) W') : CallF Tryz.prog 160 #[.pointer (some ⟨b, 0, none⟩), strV p] W RR := by
  refine sh160_calls ?_
  unfold sh160
  refine eats_spec (x := x) (p := p) h fun W1 h => ?_
  refine a_not (ifnb (fun hp => ?_) fun hp => ?_)
  · refine a_nil (a_fld0 (h.store fun W' h => k W' ?_))
    unfold wantsP; rw [hp, Bool.not_false, Bool.or_true]
    exact h
  · refine k W1 ?_
    unfold wantsP; rw [hp, Bool.not_true, Bool.or_false]; exact h
/-- number -/
theorem dnumber_spec {least most : Nat} [i : Has l b (RdO x) R] (h : St w0 G l W) (hm : most ≤ 9) (hl : least ≤ 9) (k : ∀ W', St w0 G (Ky b (RdO (numberP least most x).2) :: R) W' → RR (.int .i64 (numberP least most x).1) W') :
    CallF Tryz.prog 159 #[.pointer (some ⟨b, 0, none⟩), nV .i64 least, nV .i64 most] W RR := by
  refine sh159_calls ?_
  unfold sh159
  replace h := h.find (k := b) (X := RdO x)
  have hdl := digs_len (most := most) (s := x.1)
  refine jni (fun vs W' => vs = [.pointer (some ⟨b, 0, none⟩), nV .i64 least, .int .i64 (numV (digs most x.1) 0), nV .i64 (digs most x.1).length] ∧ St w0 G (Ky b (RdO x) :: R) W') ?_ ?_
  · rintro vs W1 _ ⟨rfl, h⟩
    refine app4 ?_
    refine jni (fun vs W' => vs = [.pointer (some ⟨b, 0, none⟩), .int .i64 (numV (digs most x.1) 0), nV .i64 (digs most x.1).length] ∧ St w0 G (Ky b (RdO (x.1, x.2 || decide ((digs most x.1).length < least))) :: R) W') ?_ ?_
    · rintro vs W2 _ ⟨rfl, h⟩
      refine app3 ?_
      refine a_nil (a_fld0 (h.load (x_cutL (show (digs most x.1).length ≤ x.1.length from hdl.2) ?_)))
      refine a_nil (a_fld0 (h.store fun W' h => ?_))
      exact k W' h
    refine a_lss (ifd (fun hc => ?_) fun hc => ?_)
    · refine a_nil (a_fld0 (h.store fun W' h => ⟨rfl, ?_⟩))
      rw [decide_eq_true (by omega), Bool.or_true]; exact h
    · refine ⟨rfl, ?_⟩
      rw [decide_eq_false (by omega), Bool.or_false]; exact h
  · refine lpx (α := Nat) (fun i => [.int .i64 (numV (x.1.take i) 0), nV .i64 i]) (fun i W' => i ≤ most ∧ i ≤ x.1.length ∧ (∀ j y, j < i → x.1[j]? = some y → isDig y = true) ∧ St w0 G (Ky b (RdO x) :: R) W') (fun i => most - i) 0 (fun _ => rfl) rfl ⟨Nat.zero_le _, Nat.zero_le _, fun j y h => absurd h (Nat.not_lt_zero _), h⟩ ?_
    clear h
    rintro next i W1 hnext ⟨hi, hil, hall, h⟩
    refine app2 ?_
    have stop : (i < most → ∀ y, x.1[i]? = some y → isDig y = false) → ([.pointer (some ⟨b, 0, none⟩), nV .i64 least, .int .i64 (numV (x.1.take i) 0), nV .i64 i] : List Value) = [.pointer (some ⟨b, 0, none⟩), nV .i64 least, .int .i64 (numV (digs most x.1) 0), nV .i64 (digs most x.1).length] ∧ St w0 G (Ky b (RdO x) :: R) W1 := fun hs => by
      rw [digs_stop hi hil hall hs, List.length_take, Nat.min_eq_left hil]
      exact ⟨rfl, h⟩
    refine a_lss (ifd (fun hc => ?_) fun hc => stop fun hx => by omega)
    refine a_nil (a_fld0 (h.load (x_len (a_lss (ifd (fun hc2 => ?_) fun hc2 => stop fun _ y hy => ?_)))))
    · obtain ⟨c, hcv⟩ : ∃ c, x.1[i]? = some c := ⟨_, List.getElem?_eq_getElem (by omega)⟩
      have hc8 := c.toNat_lt
      refine a_nil (a_fld0 (h.load (x_index hcv ?_)))
      have nd : isDig c = false → i < most → ∀ y, x.1[i]? = some y → isDig y = false := fun hd _ y hy => by rw [hcv] at hy; cases hy; exact hd
      refine a_geq (ifd (fun hge => ?_) fun hge => stop (nd (by unfold isDig; rw [decide_eq_false (by omega)]; rfl)))
      refine a_nil (a_fld0 (h.load (x_index hcv ?_)))
      refine a_leq (ifd (fun hle => ?_) fun hle => stop (nd (by unfold isDig; rw [decide_eq_false (show ¬ c.toNat ≤ 57 by omega), Bool.and_false])))
      have hd : isDig c = true := by unfold isDig; rw [decide_eq_true (by omega), decide_eq_true (by omega)]; rfl
      obtain ⟨n1, n2⟩ := numV_rng (x.1.take i) 0 (Int.le_refl _) fun d hdm => by
        obtain ⟨j, hj⟩ := List.mem_iff_getElem?.1 hdm
        rw [List.getElem?_take] at hj
        split at hj
        · rename_i hji; exact hall j d hji hj
        · cases hj
      have n3 : (10 ^ (x.1.take i).length : Nat) ≤ 1000000000 := by
        have : (10 : Nat) ^ (x.1.take i).length ≤ 10 ^ 9 := Nat.pow_le_pow_right (by decide) (by rw [List.length_take]; omega)
        exact this
      refine a_mul64 (by omega) (by omega) ?_
      refine a_nil (a_fld0 (h.load (x_index hcv ?_)))
      refine a_sub ?_
      rw [show IntKind.u8.wrap ((c.toNat : Int) - 48) = ((c.toNat - 48 : Nat) : Int) by
        rw [show ((c.toNat : Int) - 48) = ((c.toNat - 48 : Nat) : Int) by omega]
        exact wrap_nat (k := .u8) (by simp only [IntKind.max, IntKind.bits, IntKind.signed]; simp; omega)]
      refine v_convN Tryz.underlying5 Tryz.underlying3 (by simp only [IntKind.max, IntKind.bits, IntKind.signed]; simp; omega) ?_
      refine a_add64 (by omega) (by omega) (a_add64 (by omega) (by omega) ⟨rfl, rfl, rfl, ?_⟩)
      have e : numV (x.1.take i) 0 * 10 + ((c.toNat - 48 : Nat) : Int) = numV (x.1.take (i + 1)) 0 := by
        rw [List.take_add_one, hcv]
        exact (numV_append _ _ _).symm
      rw [e, show ((i : Int) + 1) = ((i + 1 : Nat) : Int) by push_cast; rfl]
      refine hnext (i + 1) W1 (by omega) ⟨by omega, by omega, fun j y hj hy => ?_, h⟩
      by_cases hji : j < i
      · exact hall j y hji hy
      · obtain rfl : j = i := by omega
        rw [hcv] at hy; cases hy; exact hd
    · rw [List.getElem?_eq_none (by omega)] at hy; cases hy
/-- slices.IndexFunc of a reader's eats -/
theorem idxf_spec {ls : List Txt} {v : Value} [i : Has l b (RdO x) R1] [j : Has R1 v (Ow 9 1 ls.length (ls.map strV)) R] (h : St w0 G l W) (hl : ls.length ≤ 1000) (k : ∀ W', St w0 G (Ky b (RdO ((oneP ls x.1).2, x.2)) :: R) W' → RR (.int .i64 (((oneP ls x.1).1 : Int) - 1)) W') :
    CallF Tryz.prog 177 #[v, .func (.func 161) #[.pointer (some ⟨b, 0, none⟩)] #[]] W RR := by
  refine sh177_calls ?_
  unfold sh177
  have h0 : St w0 G (Ky b (RdO x) :: Ky v (Ow 9 1 ls.length (ls.map strV)) :: R) W := by
    obtain ⟨F, hF, hG⟩ := h.own
    exact { h with own := ⟨F, sepL_mono j.to (i.to F W hF), hG⟩ }
  clear h
  refine x_lenS (h0.osl (v := v)) ?_
  refine lpx (α := Nat) (fun i => [nV .i64 i]) (fun i W' => i ≤ ls.length ∧ (∀ j q, j < i → ls[j]? = some q → isPreD q x.1 = false) ∧ St w0 G (Ky b (RdO x) :: Ky v (Ow 9 1 ls.length (ls.map strV)) :: R) W') (fun i => ls.length - i) 0 (fun _ => rfl) rfl ⟨Nat.zero_le _, fun j y h => absurd h (Nat.not_lt_zero _), h0⟩ ?_
  clear h0
  rintro next i W1 hnext ⟨hi, hno, h⟩
  refine app1 ?_
  refine a_lss (ifd (fun hc => ?_) fun hc => ?_)
  · obtain ⟨p, hp⟩ : ∃ p, ls[i]? = some p := ⟨_, List.getElem?_eq_getElem (by omega)⟩
    refine x_at (h.osl (v := v)) (u := strV p) (by rw [List.getElem?_map, hp]; rfl) ?_
    refine callV_bd (hent _ rfl) ?_
    refine eats_spec (x := x) (p := p) h fun W2 h => ?_
    refine ifb (fun hh => ?_) fun hh => ?_
    · have e := oneP_at hno hp hh
      rw [e] at k
      have := k W2 (by rw [show eatS x.1 p = x.1.drop p.length by unfold eatS; rw [hh]; rfl] at h; exact h.to)
      rw [show (((i + 1 : Nat) : Int) - 1) = (i : Int) by omega] at this
      exact this
    · rw [eatS_no hh] at h
      refine a_add64 (by omega) (by omega) ⟨rfl, rfl, rfl, ?_⟩
      rw [show ((i : Int) + 1) = ((i + 1 : Nat) : Int) by push_cast; rfl]
      refine hnext (i + 1) W2 (by omega) ⟨by omega, fun j q hj hq => ?_, h⟩
      by_cases hji : j < i
      · exact hno j q hji hq
      · obtain rfl : j = i := by omega
        rw [hp] at hq; cases hq; exact hh
  · have e := oneP_no (l := ls) (s := x.1) fun j q hq => hno j q (by have := (List.getElem?_eq_some_iff.1 hq).1; omega) hq
    rw [e] at k
    exact k W1 h.to
end
end Go.Proofs.YtlflpbflpcmckaaGreatDoor
namespace Go.Proofs.YtlflpbflpcmckaaGreatDoor
open Go Go.Ez Go.RowKit
set_option linter.unusedSimpArgs false
set_option linter.unusedVariables false
/-- a set of signs -/
def setL (l : Txt) : List Value := (List.range 256).map fun j => .bool (l.any fun c => c.toNat == j)
theorem setL_len (l : Txt) : (setL l).length = 256 := by simp [setL]
instance {l : Txt} : Len (setL l) 256 := ⟨setL_len l⟩
instance {l : Txt} : OneL (setL l) := ⟨by
  intro v hv
  unfold setL at hv
  rw [List.mem_map] at hv
  obtain ⟨j, _, rfl⟩ := hv
  rfl⟩
theorem setL_get (l : Txt) {j : Nat} (h : j < 256) : (setL l)[j]? = some (.bool (l.any fun c => c.toNat == j)) := by simp [setL, h]
theorem setL_set (l : Txt) (c : UInt8) : (setL l).set c.toNat (.bool true) = setL (l ++ [c]) := by
  have hc := c.toNat_lt
  apply List.ext_getElem?
  intro j
  by_cases hj : j < 256
  · rw [setL_get _ hj, List.getElem?_set]
    split
    · rename_i h
      subst h
      rw [if_pos (by rw [setL_len]; omega)]
      simp
    · rename_i h
      rw [setL_get _ hj]
      simp [h]
  · rw [List.getElem?_eq_none (by rw [List.length_set, setL_len]; omega), List.getElem?_eq_none (by rw [setL_len]; omega)]
theorem zc_set : Tryz.zeroCells100 = (setL []).toArray := by kernel_rfl
instance : TyS Tryz.prog 100 256 (setL []) := ⟨Tryz.isAgg100, Tryz.sizeOf100, fun w => by rw [Tryz.zeroValue100, zc_set]⟩
theorem x_arr {c : UInt8} {b : Nat} {K : Value → Prop} (k : K (.pointer (some ⟨b, c.toNat, none⟩))) : RunA Tryz.prog (Instr.indexAt 100 (.pointer (some ⟨b, 0, none⟩)) (byteV c)) K :=
  .of (fun w => by
    have hc := c.toNat_lt
    have h1 : (0 : Int) ≤ (c.toNat : Int) ∧ (c.toNat : Int) < (256 : Nat) := by omega
    simp only [Instr.indexAt, byteV, asIntOf, run_underlying Tryz.underlying100, Sem.run_bind, Sem.run_pure, Result.andThen, Instr.sureAddr, h1, and_self, if_true, Tryz.sizeOf4]
    rw [addr_add]
    simp) k
section
variable {w0 W W' : World} {G : Nat → Prop} {l R : List As} {RR : Value → World → Prop} {s p : Txt} {c : UInt8} {b : Nat}
abbrev SetO (l : Txt) : Nat → As := Ob (.cells (setL l).toArray 100 (0, 0))
theorem dcontains_spec [i : Has l b (SetO p) R] (h : St w0 G l W) (k : RR (.bool (p.any fun d => d.toNat == c.toNat)) W) : CallF Tryz.prog 91 #[.pointer (some ⟨b, 0, none⟩), byteV c] W RR := by
  refine sh91_calls ?_
  unfold sh91
  refine a_nil (x_arr ?_)
  have hc := c.toNat_lt
  refine w_recF Tryz.isAgg4 (h.rc (b := b) (t := 100) (cs := setL p)) (setL_get p (by omega)) ?_
  exact k
theorem makeSet_spec (h : St w0 G l W) (hp : ∀ c ∈ p, c.toNat < 128) (hl : p.length ≤ 1000) (k : ∀ W', St w0 G l W' → RR (.tuple #[.agg (setL p).toArray, .bool true]) W') : CallF Tryz.prog 56 #[strV p] W RR := by
  refine sh56_calls ?_
  unfold sh56
  refine h.allocS fun b W1 h => ?_
  refine lpx (α := Nat) (fun i => [nV .i64 i]) (fun i W' => i ≤ p.length ∧ St w0 G (Ky b (SetO (p.take i)) :: l) W') (fun i => p.length - i) 0 (fun _ => rfl) rfl ⟨Nat.zero_le _, h⟩ ?_
  clear h
  rintro next i W1 hnext ⟨hi, h⟩
  refine app1 ?_
  refine x_len (a_lss (ifd (fun hc => ?_) fun hc => ?_))
  · obtain ⟨c, hcv⟩ : ∃ c, p[i]? = some c := ⟨_, List.getElem?_eq_getElem (by omega)⟩
    refine x_index hcv ?_
    have h128 := hp c (List.mem_of_getElem? hcv)
    refine a_geq (ifd_neg (by omega) ?_)
    refine x_arr ?_
    have h8 := c.toNat_lt
    refine u_recF Tryz.isAgg4 Tryz.sizeOf4 rfl (h.rc (b := b) (t := 100) (cs := setL (p.take i))) (setL_get _ h8) fun W' hr hm => ?_
    have h2 := h.setB (b := b) (o := .cells (setL (p.take i)).toArray 100 (0, 0)) hm hr
    rw [setL_set] at h2
    refine a_add64 (by omega) (by omega) ⟨rfl, rfl, ?_⟩
    rw [show ((i : Int) + 1) = ((i + 1 : Nat) : Int) by push_cast; rfl]
    refine hnext (i + 1) W' (by omega) ⟨by omega, ?_⟩
    rw [List.take_add_one, hcv]
    exact h2
  · have he : p.take i = p := List.take_of_length_le (by omega)
    rw [he] at h
    refine h.loadS (h.storeS fun W' h => h.loadS ?_)
    exact k W' h.to
theorem trimSet_spec [i : Has l b (SetO p) R] (h : St w0 G l W) (k : RR (strV (s.dropWhile fun c => p.any fun d => d.toNat == c.toNat)) W) : CallF Tryz.prog 57 #[strV s, .pointer (some ⟨b, 0, none⟩)] W RR := by
  refine sh57_calls ?_
  unfold sh57
  refine jni (fun vs W' => vs = [strV (s.dropWhile fun c => p.any fun d => d.toNat == c.toNat)] ∧ W' = W) (by rintro vs W' _ ⟨rfl, rfl⟩; exact k) ?_
  refine lpx (α := Txt) (fun t => [strV t]) (fun t W' => (t.dropWhile fun c => p.any fun d => d.toNat == c.toNat) = (s.dropWhile fun c => p.any fun d => d.toNat == c.toNat) ∧ W' = W) List.length s (fun _ => rfl) rfl ⟨rfl, rfl⟩ ?_
  rintro next t W1 hnext ⟨ht, rfl⟩
  refine app1 ?_
  refine x_len (a_gtr (ifd (fun hc => ?_) fun hc => ?_))
  · cases t with
    | nil => simp at hc
    | cons c t =>
      refine x_index (i := 0) (c := c) rfl ?_
      refine dcontains_spec (p := p) h ?_
      refine a_not (ifnb (fun hp => ?_) fun hp => ?_)
      · refine ⟨?_, rfl⟩
        rw [← ht, List.dropWhile_cons_of_neg (by rw [hp]; simp)]
      · refine x_cutL (lo := 1) (by simp) ⟨rfl, ?_⟩
        refine hnext t _ (by simp) ⟨?_, rfl⟩
        rw [← ht, List.dropWhile_cons_of_pos (by exact hp)]
  · have : t = [] := List.eq_nil_of_length_eq_zero (by omega)
    subst this
    exact ⟨by rw [← ht]; rfl, rfl⟩
theorem digSet (c : UInt8) : (([48, 49, 50, 51, 52, 53, 54, 55, 56, 57] : Txt).any fun d => d.toNat == c.toNat) = isDig c := by
  have hc := c.toNat_lt
  unfold isDig
  simp only [List.any_cons, List.any_nil, Bool.or_false]
  rw [Bool.eq_iff_iff]
  simp
  omega
/-- strings.TrimLeft at the digits -/
theorem trim_spec (h : St w0 G l W) (k : ∀ W', St w0 G l W' → RR (strV (s.dropWhile isDig)) W') : CallF Tryz.prog 174 #[strV s, .string ⟨#[48, 49, 50, 51, 52, 53, 54, 55, 56, 57]⟩] W RR := by
  refine sh174_calls ?_
  unfold sh174
  refine w_eqlL (b := []) (ifd (fun hs => ?_) fun hs => ?_)
  · subst hs; exact k W h
  refine w_eqlL (a := [48, 49, 50, 51, 52, 53, 54, 55, 56, 57]) (b := []) (ifd_neg (by decide) ?_)
  refine jni (fun vs W' => vs = [strV s, strV [48, 49, 50, 51, 52, 53, 54, 55, 56, 57]] ∧ W' = W) ?_ ?_
  · rintro vs W' _ ⟨rfl, rfl⟩
    refine app2 ?_
    refine makeSet_spec h (by decide) (by decide) fun W1 h => ?_
    refine a_ext0 (a_ext1 ?_)
    refine h.allocS fun b W2 h => h.storeS fun W3 h => ift ?_
    refine trimSet_spec (p := [48, 49, 50, 51, 52, 53, 54, 55, 56, 57]) h ?_
    have := k W3 h.to
    rw [show (fun c : UInt8 => ([48, 49, 50, 51, 52, 53, 54, 55, 56, 57] : Txt).any fun d => d.toNat == c.toNat) = isDig from funext digSet]
    exact this
  · refine x_len (l := [48, 49, 50, 51, 52, 53, 54, 55, 56, 57]) (w_eql (ifd_neg (by decide) ?_))
    exact ⟨rfl, rfl⟩
end
end Go.Proofs.YtlflpbflpcmckaaGreatDoor
namespace Go.Proofs.YtlflpbflpcmckaaGreatDoor
open Go Go.Ez Go.RowKit
set_option linter.unusedSimpArgs false
set_option linter.unusedVariables false
section
variable {w0 W W' : World} {G : Nat → Prop} {l R : List As} {RR : Value → World → Prop} {x : RSt} {b : Nat} {p s : Txt}
theorem numberP_rng {least most : Nat} {x : RSt} : 0 ≤ (numberP least most x).1 ∧ (numberP least most x).1 < (10 ^ most : Nat) := by
  have h := numV_rng (digs most x.1) 0 (Int.le_refl _) fun c hc => digs_all c hc
  have h2 : (10 : Nat) ^ (digs most x.1).length ≤ 10 ^ most := Nat.pow_le_pow_right (by decide) digs_len.1
  refine ⟨h.1, ?_⟩
  show numV (digs most x.1) 0 < _
  omega
theorem signP_one (x : RSt) : (signP x).1 = 1 ∨ (signP x).1 = -1 := by unfold signP; split <;> simp
theorem offsetP_rng (x : RSt) : -400000 ≤ (offsetP p x).1 ∧ (offsetP p x).1 ≤ 400000 := by
  have h1 := numberP_rng (least := 2) (most := 2) (x := (signP x).2)
  have h2 := numberP_rng (least := 2) (most := 2) (x := wantsP p (numberP 2 2 (signP x).2).2)
  unfold offsetP
  simp only []
  rcases signP_one x with h | h <;> rw [h] <;> omega
/-- (*reader).offset -/
theorem offset_spec [i : Has l b (RdO x) R] (h : St w0 G l W) (k : ∀ W', St w0 G (Ky b (RdO (offsetP p x).2) :: R) W' → RR (.int .i64 (offsetP p x).1) W') : CallF Tryz.prog 163 #[.pointer (some ⟨b, 0, none⟩), strV p] W RR := by
  refine sh163_calls ?_
  unfold sh163
  refine jni (fun vs W' => vs = [.pointer (some ⟨b, 0, none⟩), strV p, .int .i64 (signP x).1] ∧ St w0 G (Ky b (RdO (signP x).2) :: R) W') ?_ ?_
  · rintro vs W1 _ ⟨rfl, h⟩
    refine app3 ?_
    refine dnumber_spec (least := 2) (most := 2) h (by decide) (by decide) fun W2 h => ?_
    refine dwants_spec h fun W3 h => ?_
    refine dnumber_spec (least := 2) (most := 2) h (by decide) (by decide) fun W4 h => ?_
    have r1 := numberP_rng (least := 2) (most := 2) (x := (signP x).2)
    have r2 := numberP_rng (least := 2) (most := 2) (x := wantsP p (numberP 2 2 (signP x).2).2)
    have r3 := signP_one x
    unfold offsetP at k
    simp only [] at k
    generalize hH : (numberP 2 2 (signP x).2) = H at *
    generalize hM : (numberP 2 2 (wantsP p H.2)) = M at *
    generalize (signP x).1 = sg at *
    refine jni (fun vs W' => vs = [.int .i64 sg, .int .i64 H.1, .int .i64 M.1] ∧ St w0 G (Ky b (RdO (badIf (decide (23 < H.1 ∨ 59 < M.1)) M.2)) :: R) W') ?_ ?_
    · rintro vs W5 _ ⟨rfl, h⟩
      refine app3 ?_
      refine a_mul64 (by omega) (by omega) (a_mul64 (by omega) (by omega) (a_add64 (by omega) (by omega) ?_))
      refine a_mul64 (by rcases r3 with rfl | rfl <;> omega) (by rcases r3 with rfl | rfl <;> omega) ?_
      exact k W5 h
    · refine a_gtr (ifd (fun h1 => ?_) fun h1 => a_gtr (ifd (fun h2 => ?_) fun h2 => ?_))
      · refine a_nil (a_fld0 (h.store fun W' h => ⟨rfl, ?_⟩))
        unfold badIf; rw [decide_eq_true (.inl h1), Bool.or_true]; exact h
      · refine a_nil (a_fld0 (h.store fun W' h => ⟨rfl, ?_⟩))
        unfold badIf; rw [decide_eq_true (.inr h2), Bool.or_true]; exact h
      · refine ⟨rfl, ?_⟩
        unfold badIf; rw [decide_eq_false (by omega), Bool.or_false]; exact h
  · refine eats_spec (x := x) (p := [43]) h fun W1 h => ?_
    refine a_not (ifnb (fun hp => ?_) fun hp => ?_)
    · refine dwants_spec (x := eatsP [43] x) (p := [45]) h fun W2 h => ⟨?_, ?_⟩
      · unfold signP; rw [hp]; rfl
      · unfold signP; rw [hp]; exact h
    · refine ⟨?_, ?_⟩
      · unfold signP; rw [hp]; rfl
      · unfold signP; rw [hp]; exact h
theorem makeP_rng (y mo d h mi s : Int) : 0 ≤ (makeP y mo d h mi s).1 ∧ (makeP y mo d h mi s).1 ≤ 300000000000 := by
  unfold makeP
  cases hok : okM y mo d h mi s
  · simp
  · obtain ⟨h1, h2, h3, h4, h5, h6, h7, h8, h9, h10, h11, h12⟩ := of_decide_eq_true hok
    have hl := lenM_le y mo
    obtain ⟨hf, hf'⟩ := firstD_rng h1 (by omega)
    have s1 := sumL_ge y (mo - 1).toNat
    have s2 := sumL_le y (mo - 1).toNat
    simp only [secN, dayN, if_true]
    omega
/-- (*reader).second -/
theorem second_spec {y mo d hh mi c off : Int} [i : Has l b (RdO x) R] (h : St w0 G l W) (ho : -400000 ≤ off ∧ off ≤ 400000) (k : ∀ W', St w0 G (Ky b (RdO x) :: R) W' → RR (.tuple #[.int .i64 (secondP x y mo d hh mi c off).1, .int .i64 (secondP x y mo d hh mi c off).2]) W') :
    CallF Tryz.prog 164 #[.pointer (some ⟨b, 0, none⟩), .agg #[.int .i64 y, .int .i64 mo, .int .i64 d, .int .i64 hh, .int .i64 mi, .int .i64 c, .int .i64 off]] W RR := by
  refine sh164_calls ?_
  unfold sh164
  replace h := h.find (k := b) (X := RdO x)
  refine h.boxS fun q W h => ?_
  refine a_nil (a_fld0 (h.load ?_))
  unfold secondP at k
  refine ifb (fun hb => ?_) fun hb => ?_
  · rw [hb] at k; exact k W h.to
  rw [hb, Bool.false_or] at k
  refine a_nil (a_fld0 (h.load (w_neqL (b := []) (ifd (fun hs => ?_) fun hs => ?_))))
  · rw [decide_eq_true hs] at k; exact k W h.to
  rw [decide_eq_false hs] at k
  simp only [Bool.false_eq_true, if_false] at k
  have hr := makeP_rng y mo d hh mi c
  unfold rangeP at k
  (repeat (first | (with_reducible refine ift ?_) | (with_reducible refine iff' ?_) | (with_reducible refine a_lss ?_) | (with_reducible refine a_leq ?_) | (with_reducible refine a_gtr ?_) | (with_reducible refine a_geq ?_) | (with_reducible refine w_eql ?_) | (with_reducible refine w_neq ?_) | (with_reducible refine s_eql ?_) | (with_reducible refine s_neq ?_) | ((with_reducible refine a_add64 ?h0 ?h1 ?_); (case h0 => omega); (case h1 => omega);  skip) | ((with_reducible refine a_sub64 ?h0 ?h1 ?_); (case h0 => omega); (case h1 => omega);  skip) | ((with_reducible refine a_mul64 ?h0 ?h1 ?_); (case h0 => omega); (case h1 => omega);  skip) | (with_reducible refine a_notd ?_) | (with_reducible refine a_not ?_) | (with_reducible refine a_ext0 ?_) | (with_reducible refine a_ext1 ?_) | (with_reducible refine a_ext2 ?_) | (with_reducible refine x_len ?_) | (with_reducible refine x_lens ?_) | (with_reducible refine x_eqb ?_) | (with_reducible refine x_neb ?_) | (with_reducible refine x_nilP ?_) | (with_reducible refine x_nilPn ?_) | (with_reducible refine x_nilF ?_) | (with_reducible refine x_nilFF ?_) | (with_reducible refine w_eqlL ?_) | (with_reducible refine w_neqL ?_) | (with_reducible refine s_eqlL ?_) | (with_reducible refine ifnt ?_) | (with_reducible refine ifnf ?_) | (with_reducible refine x_eqB ?_) | (with_reducible refine x_neB ?_) | (with_reducible refine x_lssL ?_) | (with_reducible refine x_gtrL ?_) | (with_reducible refine x_geqL ?_) | (with_reducible refine s_neqL ?_) | (with_reducible refine St.load h ?_) | (with_reducible refine St.loadS h ?_) | (with_reducible refine a_fld0 ?_) | (with_reducible refine St.store h fun W h => ?_) | (with_reducible refine St.storeS h fun W h => ?_) | (with_reducible refine St.alloc h fun b W h => ?_) | (with_reducible refine St.allocS h fun b W h => ?_) | (with_reducible refine a_nil ?_) | (with_reducible refine ss_load ?_) | (with_reducible refine ss_loadS ?_) | (with_reducible refine ss_eqb ?_)))
  refine make_spec ?_
  refine a_ext0 (a_ext1 (a_not (ifnb (fun hm => ?_) fun hm => ?_)))
  · rw [hm] at k; exact k W h.to
  rw [hm, Bool.true_and] at k
  (repeat (first | (with_reducible refine ift ?_) | (with_reducible refine iff' ?_) | (with_reducible refine a_lss ?_) | (with_reducible refine a_leq ?_) | (with_reducible refine a_gtr ?_) | (with_reducible refine a_geq ?_) | (with_reducible refine w_eql ?_) | (with_reducible refine w_neq ?_) | (with_reducible refine s_eql ?_) | (with_reducible refine s_neq ?_) | ((with_reducible refine a_add64 ?h0 ?h1 ?_); (case h0 => omega); (case h1 => omega);  skip) | ((with_reducible refine a_sub64 ?h0 ?h1 ?_); (case h0 => omega); (case h1 => omega);  skip) | ((with_reducible refine a_mul64 ?h0 ?h1 ?_); (case h0 => omega); (case h1 => omega);  skip) | (with_reducible refine a_notd ?_) | (with_reducible refine a_not ?_) | (with_reducible refine a_ext0 ?_) | (with_reducible refine a_ext1 ?_) | (with_reducible refine a_ext2 ?_) | (with_reducible refine x_len ?_) | (with_reducible refine x_lens ?_) | (with_reducible refine x_eqb ?_) | (with_reducible refine x_neb ?_) | (with_reducible refine x_nilP ?_) | (with_reducible refine x_nilPn ?_) | (with_reducible refine x_nilF ?_) | (with_reducible refine x_nilFF ?_) | (with_reducible refine w_eqlL ?_) | (with_reducible refine w_neqL ?_) | (with_reducible refine s_eqlL ?_) | (with_reducible refine ifnt ?_) | (with_reducible refine ifnf ?_) | (with_reducible refine x_eqB ?_) | (with_reducible refine x_neB ?_) | (with_reducible refine x_lssL ?_) | (with_reducible refine x_gtrL ?_) | (with_reducible refine x_geqL ?_) | (with_reducible refine s_neqL ?_) | (with_reducible refine St.load h ?_) | (with_reducible refine St.loadS h ?_) | (with_reducible refine a_fld0 ?_) | (with_reducible refine St.store h fun W h => ?_) | (with_reducible refine St.storeS h fun W h => ?_) | (with_reducible refine St.alloc h fun b W h => ?_) | (with_reducible refine St.allocS h fun b W h => ?_) | (with_reducible refine a_nil ?_) | (with_reducible refine ss_load ?_) | (with_reducible refine ss_loadS ?_) | (with_reducible refine ss_eqb ?_)))
  refine within_spec ?_
  refine a_not (ifnb (fun hm => ?_) fun hm => ?_)
  · rw [hm] at k; exact k W h.to
  rw [hm] at k
  (repeat (first | (with_reducible refine ift ?_) | (with_reducible refine iff' ?_) | (with_reducible refine a_lss ?_) | (with_reducible refine a_leq ?_) | (with_reducible refine a_gtr ?_) | (with_reducible refine a_geq ?_) | (with_reducible refine w_eql ?_) | (with_reducible refine w_neq ?_) | (with_reducible refine s_eql ?_) | (with_reducible refine s_neq ?_) | ((with_reducible refine a_add64 ?h0 ?h1 ?_); (case h0 => omega); (case h1 => omega);  skip) | ((with_reducible refine a_sub64 ?h0 ?h1 ?_); (case h0 => omega); (case h1 => omega);  skip) | ((with_reducible refine a_mul64 ?h0 ?h1 ?_); (case h0 => omega); (case h1 => omega);  skip) | (with_reducible refine a_notd ?_) | (with_reducible refine a_not ?_) | (with_reducible refine a_ext0 ?_) | (with_reducible refine a_ext1 ?_) | (with_reducible refine a_ext2 ?_) | (with_reducible refine x_len ?_) | (with_reducible refine x_lens ?_) | (with_reducible refine x_eqb ?_) | (with_reducible refine x_neb ?_) | (with_reducible refine x_nilP ?_) | (with_reducible refine x_nilPn ?_) | (with_reducible refine x_nilF ?_) | (with_reducible refine x_nilFF ?_) | (with_reducible refine w_eqlL ?_) | (with_reducible refine w_neqL ?_) | (with_reducible refine s_eqlL ?_) | (with_reducible refine ifnt ?_) | (with_reducible refine ifnf ?_) | (with_reducible refine x_eqB ?_) | (with_reducible refine x_neB ?_) | (with_reducible refine x_lssL ?_) | (with_reducible refine x_gtrL ?_) | (with_reducible refine x_geqL ?_) | (with_reducible refine s_neqL ?_) | (with_reducible refine St.load h ?_) | (with_reducible refine St.loadS h ?_) | (with_reducible refine a_fld0 ?_) | (with_reducible refine St.store h fun W h => ?_) | (with_reducible refine St.storeS h fun W h => ?_) | (with_reducible refine St.alloc h fun b W h => ?_) | (with_reducible refine St.allocS h fun b W h => ?_) | (with_reducible refine a_nil ?_) | (with_reducible refine ss_load ?_) | (with_reducible refine ss_loadS ?_) | (with_reducible refine ss_eqb ?_)))
  exact k W h.to
/-- (*reader).fraction -/
theorem fraction_spec [i : Has l b (RdO x) R] (h : St w0 G l W) (k : ∀ W', St w0 G (Ky b (RdO (fractionP x)) :: R) W' → RR (.tuple #[]) W') : CallF Tryz.prog 162 #[.pointer (some ⟨b, 0, none⟩)] W RR := by
  refine sh162_calls ?_
  unfold sh162
  refine eats_spec (x := x) (p := [46]) h fun W1 h => ?_
  unfold fractionP at k
  refine ifb (fun hp => ?_) fun hp => ?_
  · rw [hp] at k
    simp only [if_true] at k
    refine dnumber_spec (x := eatsP [46] x) (least := 1) (most := 1) h (by decide) (by decide) fun W2 h => ?_
    refine a_nil (a_fld0 (h.load ?_))
    refine trim_spec h fun W3 h => ?_
    refine a_nil (a_fld0 (h.store fun W' h => ?_))
    exact k W' h
  · rw [hp] at k
    simp only [Bool.false_eq_true, if_false] at k
    exact k W1 h
theorem zedP_rng (x : RSt) : -400000 ≤ (zedP x).1 ∧ (zedP x).1 ≤ 400000 := by
  unfold zedP
  split
  · simp
  split
  · simp
  · exact offsetP_rng _
/-- Net -/
theorem net_spec (h : St w0 G l W) (k : ∀ W', St w0 G l W' → RR (.tuple #[.int .i64 (netP s).1, .int .i64 (netP s).2]) W') : CallF Tryz.prog 137 #[strV s] W RR := by
  refine sh137_calls ?_
  unfold sh137
  refine x_bld (cells := #[strV s, .bool false]) rfl ?_
  refine h.boxS (cs := [strV s, .bool false]) fun b W h => ?_
  refine h.allocS fun q W h => ?_
  unfold netP at k
  simp only [] at k
  refine dnumber_spec (x := (s, false)) (least := 4) (most := 4) h (by decide) (by decide) fun W h => ?_
  generalize hY : numberP 4 4 (s, false) = Y at *
  (repeat (first | (with_reducible refine ift ?_) | (with_reducible refine iff' ?_) | (with_reducible refine a_lss ?_) | (with_reducible refine a_leq ?_) | (with_reducible refine a_gtr ?_) | (with_reducible refine a_geq ?_) | (with_reducible refine w_eql ?_) | (with_reducible refine w_neq ?_) | (with_reducible refine s_eql ?_) | (with_reducible refine s_neq ?_) | ((with_reducible refine a_add64 ?h0 ?h1 ?_); (case h0 => omega); (case h1 => omega);  skip) | ((with_reducible refine a_sub64 ?h0 ?h1 ?_); (case h0 => omega); (case h1 => omega);  skip) | ((with_reducible refine a_mul64 ?h0 ?h1 ?_); (case h0 => omega); (case h1 => omega);  skip) | (with_reducible refine a_notd ?_) | (with_reducible refine a_not ?_) | (with_reducible refine a_ext0 ?_) | (with_reducible refine a_ext1 ?_) | (with_reducible refine a_ext2 ?_) | (with_reducible refine x_len ?_) | (with_reducible refine x_lens ?_) | (with_reducible refine x_eqb ?_) | (with_reducible refine x_neb ?_) | (with_reducible refine x_nilP ?_) | (with_reducible refine x_nilPn ?_) | (with_reducible refine x_nilF ?_) | (with_reducible refine x_nilFF ?_) | (with_reducible refine w_eqlL ?_) | (with_reducible refine w_neqL ?_) | (with_reducible refine s_eqlL ?_) | (with_reducible refine ifnt ?_) | (with_reducible refine ifnf ?_) | (with_reducible refine x_eqB ?_) | (with_reducible refine x_neB ?_) | (with_reducible refine x_lssL ?_) | (with_reducible refine x_gtrL ?_) | (with_reducible refine x_geqL ?_) | (with_reducible refine s_neqL ?_) | (with_reducible refine St.load h ?_) | (with_reducible refine St.loadS h ?_) | (with_reducible refine a_fld0 ?_) | (with_reducible refine St.store h fun W h => ?_) | (with_reducible refine St.storeS h fun W h => ?_) | (with_reducible refine St.alloc h fun b W h => ?_) | (with_reducible refine St.allocS h fun b W h => ?_) | (with_reducible refine a_nil ?_) | (with_reducible refine ss_load ?_) | (with_reducible refine ss_loadS ?_) | (with_reducible refine ss_eqb ?_)))
  refine dwants_spec (x := Y.2) (p := [45]) h fun W h => ?_
  refine dnumber_spec (x := wantsP [45] Y.2) (least := 2) (most := 2) h (by decide) (by decide) fun W h => ?_
  generalize hM : numberP 2 2 (wantsP [45] Y.2) = M at *
  (repeat (first | (with_reducible refine ift ?_) | (with_reducible refine iff' ?_) | (with_reducible refine a_lss ?_) | (with_reducible refine a_leq ?_) | (with_reducible refine a_gtr ?_) | (with_reducible refine a_geq ?_) | (with_reducible refine w_eql ?_) | (with_reducible refine w_neq ?_) | (with_reducible refine s_eql ?_) | (with_reducible refine s_neq ?_) | ((with_reducible refine a_add64 ?h0 ?h1 ?_); (case h0 => omega); (case h1 => omega);  skip) | ((with_reducible refine a_sub64 ?h0 ?h1 ?_); (case h0 => omega); (case h1 => omega);  skip) | ((with_reducible refine a_mul64 ?h0 ?h1 ?_); (case h0 => omega); (case h1 => omega);  skip) | (with_reducible refine a_notd ?_) | (with_reducible refine a_not ?_) | (with_reducible refine a_ext0 ?_) | (with_reducible refine a_ext1 ?_) | (with_reducible refine a_ext2 ?_) | (with_reducible refine x_len ?_) | (with_reducible refine x_lens ?_) | (with_reducible refine x_eqb ?_) | (with_reducible refine x_neb ?_) | (with_reducible refine x_nilP ?_) | (with_reducible refine x_nilPn ?_) | (with_reducible refine x_nilF ?_) | (with_reducible refine x_nilFF ?_) | (with_reducible refine w_eqlL ?_) | (with_reducible refine w_neqL ?_) | (with_reducible refine s_eqlL ?_) | (with_reducible refine ifnt ?_) | (with_reducible refine ifnf ?_) | (with_reducible refine x_eqB ?_) | (with_reducible refine x_neB ?_) | (with_reducible refine x_lssL ?_) | (with_reducible refine x_gtrL ?_) | (with_reducible refine x_geqL ?_) | (with_reducible refine s_neqL ?_) | (with_reducible refine St.load h ?_) | (with_reducible refine St.loadS h ?_) | (with_reducible refine a_fld0 ?_) | (with_reducible refine St.store h fun W h => ?_) | (with_reducible refine St.storeS h fun W h => ?_) | (with_reducible refine St.alloc h fun b W h => ?_) | (with_reducible refine St.allocS h fun b W h => ?_) | (with_reducible refine a_nil ?_) | (with_reducible refine ss_load ?_) | (with_reducible refine ss_loadS ?_) | (with_reducible refine ss_eqb ?_)))
  refine dwants_spec (x := M.2) (p := [45]) h fun W h => ?_
  refine dnumber_spec (x := wantsP [45] M.2) (least := 2) (most := 2) h (by decide) (by decide) fun W h => ?_
  generalize hD : numberP 2 2 (wantsP [45] M.2) = D at *
  (repeat (first | (with_reducible refine ift ?_) | (with_reducible refine iff' ?_) | (with_reducible refine a_lss ?_) | (with_reducible refine a_leq ?_) | (with_reducible refine a_gtr ?_) | (with_reducible refine a_geq ?_) | (with_reducible refine w_eql ?_) | (with_reducible refine w_neq ?_) | (with_reducible refine s_eql ?_) | (with_reducible refine s_neq ?_) | ((with_reducible refine a_add64 ?h0 ?h1 ?_); (case h0 => omega); (case h1 => omega);  skip) | ((with_reducible refine a_sub64 ?h0 ?h1 ?_); (case h0 => omega); (case h1 => omega);  skip) | ((with_reducible refine a_mul64 ?h0 ?h1 ?_); (case h0 => omega); (case h1 => omega);  skip) | (with_reducible refine a_notd ?_) | (with_reducible refine a_not ?_) | (with_reducible refine a_ext0 ?_) | (with_reducible refine a_ext1 ?_) | (with_reducible refine a_ext2 ?_) | (with_reducible refine x_len ?_) | (with_reducible refine x_lens ?_) | (with_reducible refine x_eqb ?_) | (with_reducible refine x_neb ?_) | (with_reducible refine x_nilP ?_) | (with_reducible refine x_nilPn ?_) | (with_reducible refine x_nilF ?_) | (with_reducible refine x_nilFF ?_) | (with_reducible refine w_eqlL ?_) | (with_reducible refine w_neqL ?_) | (with_reducible refine s_eqlL ?_) | (with_reducible refine ifnt ?_) | (with_reducible refine ifnf ?_) | (with_reducible refine x_eqB ?_) | (with_reducible refine x_neB ?_) | (with_reducible refine x_lssL ?_) | (with_reducible refine x_gtrL ?_) | (with_reducible refine x_geqL ?_) | (with_reducible refine s_neqL ?_) | (with_reducible refine St.load h ?_) | (with_reducible refine St.loadS h ?_) | (with_reducible refine a_fld0 ?_) | (with_reducible refine St.store h fun W h => ?_) | (with_reducible refine St.storeS h fun W h => ?_) | (with_reducible refine St.alloc h fun b W h => ?_) | (with_reducible refine St.allocS h fun b W h => ?_) | (with_reducible refine a_nil ?_) | (with_reducible refine ss_load ?_) | (with_reducible refine ss_loadS ?_) | (with_reducible refine ss_eqb ?_)))
  refine jni (fun vs W' => vs = [.pointer (some ⟨b, 0, none⟩), .pointer (some ⟨q, 0, none⟩)] ∧ St w0 G (Ky b (RdO (teeP D.2)) :: Ky q (Ob (.cells [.int .i64 Y.1, .int .i64 M.1, .int .i64 D.1, .int .i64 0, .int .i64 0, .int .i64 0, .int .i64 0].toArray 199 (0, 0))) :: l) W') ?_ ?_
  · rintro vs W _ ⟨rfl, h⟩
    refine app2 ?_
    refine dnumber_spec (x := teeP D.2) (least := 2) (most := 2) h (by decide) (by decide) fun W h => ?_
    generalize hH : numberP 2 2 (teeP D.2) = H at *
    (repeat (first | (with_reducible refine ift ?_) | (with_reducible refine iff' ?_) | (with_reducible refine a_lss ?_) | (with_reducible refine a_leq ?_) | (with_reducible refine a_gtr ?_) | (with_reducible refine a_geq ?_) | (with_reducible refine w_eql ?_) | (with_reducible refine w_neq ?_) | (with_reducible refine s_eql ?_) | (with_reducible refine s_neq ?_) | ((with_reducible refine a_add64 ?h0 ?h1 ?_); (case h0 => omega); (case h1 => omega);  skip) | ((with_reducible refine a_sub64 ?h0 ?h1 ?_); (case h0 => omega); (case h1 => omega);  skip) | ((with_reducible refine a_mul64 ?h0 ?h1 ?_); (case h0 => omega); (case h1 => omega);  skip) | (with_reducible refine a_notd ?_) | (with_reducible refine a_not ?_) | (with_reducible refine a_ext0 ?_) | (with_reducible refine a_ext1 ?_) | (with_reducible refine a_ext2 ?_) | (with_reducible refine x_len ?_) | (with_reducible refine x_lens ?_) | (with_reducible refine x_eqb ?_) | (with_reducible refine x_neb ?_) | (with_reducible refine x_nilP ?_) | (with_reducible refine x_nilPn ?_) | (with_reducible refine x_nilF ?_) | (with_reducible refine x_nilFF ?_) | (with_reducible refine w_eqlL ?_) | (with_reducible refine w_neqL ?_) | (with_reducible refine s_eqlL ?_) | (with_reducible refine ifnt ?_) | (with_reducible refine ifnf ?_) | (with_reducible refine x_eqB ?_) | (with_reducible refine x_neB ?_) | (with_reducible refine x_lssL ?_) | (with_reducible refine x_gtrL ?_) | (with_reducible refine x_geqL ?_) | (with_reducible refine s_neqL ?_) | (with_reducible refine St.load h ?_) | (with_reducible refine St.loadS h ?_) | (with_reducible refine a_fld0 ?_) | (with_reducible refine St.store h fun W h => ?_) | (with_reducible refine St.storeS h fun W h => ?_) | (with_reducible refine St.alloc h fun b W h => ?_) | (with_reducible refine St.allocS h fun b W h => ?_) | (with_reducible refine a_nil ?_) | (with_reducible refine ss_load ?_) | (with_reducible refine ss_loadS ?_) | (with_reducible refine ss_eqb ?_)))
    refine dwants_spec (x := H.2) (p := [58]) h fun W h => ?_
    refine dnumber_spec (x := wantsP [58] H.2) (least := 2) (most := 2) h (by decide) (by decide) fun W h => ?_
    generalize hI : numberP 2 2 (wantsP [58] H.2) = I at *
    (repeat (first | (with_reducible refine ift ?_) | (with_reducible refine iff' ?_) | (with_reducible refine a_lss ?_) | (with_reducible refine a_leq ?_) | (with_reducible refine a_gtr ?_) | (with_reducible refine a_geq ?_) | (with_reducible refine w_eql ?_) | (with_reducible refine w_neq ?_) | (with_reducible refine s_eql ?_) | (with_reducible refine s_neq ?_) | ((with_reducible refine a_add64 ?h0 ?h1 ?_); (case h0 => omega); (case h1 => omega);  skip) | ((with_reducible refine a_sub64 ?h0 ?h1 ?_); (case h0 => omega); (case h1 => omega);  skip) | ((with_reducible refine a_mul64 ?h0 ?h1 ?_); (case h0 => omega); (case h1 => omega);  skip) | (with_reducible refine a_notd ?_) | (with_reducible refine a_not ?_) | (with_reducible refine a_ext0 ?_) | (with_reducible refine a_ext1 ?_) | (with_reducible refine a_ext2 ?_) | (with_reducible refine x_len ?_) | (with_reducible refine x_lens ?_) | (with_reducible refine x_eqb ?_) | (with_reducible refine x_neb ?_) | (with_reducible refine x_nilP ?_) | (with_reducible refine x_nilPn ?_) | (with_reducible refine x_nilF ?_) | (with_reducible refine x_nilFF ?_) | (with_reducible refine w_eqlL ?_) | (with_reducible refine w_neqL ?_) | (with_reducible refine s_eqlL ?_) | (with_reducible refine ifnt ?_) | (with_reducible refine ifnf ?_) | (with_reducible refine x_eqB ?_) | (with_reducible refine x_neB ?_) | (with_reducible refine x_lssL ?_) | (with_reducible refine x_gtrL ?_) | (with_reducible refine x_geqL ?_) | (with_reducible refine s_neqL ?_) | (with_reducible refine St.load h ?_) | (with_reducible refine St.loadS h ?_) | (with_reducible refine a_fld0 ?_) | (with_reducible refine St.store h fun W h => ?_) | (with_reducible refine St.storeS h fun W h => ?_) | (with_reducible refine St.alloc h fun b W h => ?_) | (with_reducible refine St.allocS h fun b W h => ?_) | (with_reducible refine a_nil ?_) | (with_reducible refine ss_load ?_) | (with_reducible refine ss_loadS ?_) | (with_reducible refine ss_eqb ?_)))
    refine dwants_spec (x := I.2) (p := [58]) h fun W h => ?_
    refine dnumber_spec (x := wantsP [58] I.2) (least := 2) (most := 2) h (by decide) (by decide) fun W h => ?_
    generalize hC : numberP 2 2 (wantsP [58] I.2) = C at *
    (repeat (first | (with_reducible refine ift ?_) | (with_reducible refine iff' ?_) | (with_reducible refine a_lss ?_) | (with_reducible refine a_leq ?_) | (with_reducible refine a_gtr ?_) | (with_reducible refine a_geq ?_) | (with_reducible refine w_eql ?_) | (with_reducible refine w_neq ?_) | (with_reducible refine s_eql ?_) | (with_reducible refine s_neq ?_) | ((with_reducible refine a_add64 ?h0 ?h1 ?_); (case h0 => omega); (case h1 => omega);  skip) | ((with_reducible refine a_sub64 ?h0 ?h1 ?_); (case h0 => omega); (case h1 => omega);  skip) | ((with_reducible refine a_mul64 ?h0 ?h1 ?_); (case h0 => omega); (case h1 => omega);  skip) | (with_reducible refine a_notd ?_) | (with_reducible refine a_not ?_) | (with_reducible refine a_ext0 ?_) | (with_reducible refine a_ext1 ?_) | (with_reducible refine a_ext2 ?_) | (with_reducible refine x_len ?_) | (with_reducible refine x_lens ?_) | (with_reducible refine x_eqb ?_) | (with_reducible refine x_neb ?_) | (with_reducible refine x_nilP ?_) | (with_reducible refine x_nilPn ?_) | (with_reducible refine x_nilF ?_) | (with_reducible refine x_nilFF ?_) | (with_reducible refine w_eqlL ?_) | (with_reducible refine w_neqL ?_) | (with_reducible refine s_eqlL ?_) | (with_reducible refine ifnt ?_) | (with_reducible refine ifnf ?_) | (with_reducible refine x_eqB ?_) | (with_reducible refine x_neB ?_) | (with_reducible refine x_lssL ?_) | (with_reducible refine x_gtrL ?_) | (with_reducible refine x_geqL ?_) | (with_reducible refine s_neqL ?_) | (with_reducible refine St.load h ?_) | (with_reducible refine St.loadS h ?_) | (with_reducible refine a_fld0 ?_) | (with_reducible refine St.store h fun W h => ?_) | (with_reducible refine St.storeS h fun W h => ?_) | (with_reducible refine St.alloc h fun b W h => ?_) | (with_reducible refine St.allocS h fun b W h => ?_) | (with_reducible refine a_nil ?_) | (with_reducible refine ss_load ?_) | (with_reducible refine ss_loadS ?_) | (with_reducible refine ss_eqb ?_)))
    refine fraction_spec (x := C.2) h fun W h => ?_
    generalize hF : fractionP C.2 = F at *
    have hz := zedP_rng F
    refine jni (fun vs W' => vs = [.pointer (some ⟨b, 0, none⟩), .pointer (some ⟨q, 0, none⟩)] ∧ St w0 G (Ky b (RdO (zedP F).2) :: Ky q (Ob (.cells [.int .i64 Y.1, .int .i64 M.1, .int .i64 D.1, .int .i64 H.1, .int .i64 I.1, .int .i64 C.1, .int .i64 (zedP F).1].toArray 199 (0, 0))) :: l) W') ?_ ?_
    · rintro vs W _ ⟨rfl, h⟩
      refine app2 ?_
      replace h := h.find (k := q) (X := Ob (.cells [.int .i64 Y.1, .int .i64 M.1, .int .i64 D.1, .int .i64 H.1, .int .i64 I.1, .int .i64 C.1, .int .i64 (zedP F).1].toArray 199 (0, 0)))
      refine h.loadS ?_
      refine second_spec (x := (zedP F).2) h hz fun W h => ?_
      refine a_ext0 (a_ext1 ?_)
      exact k W h.to
    · refine eats_spec (x := F) (p := [90]) h fun W h => ?_
      refine a_not (ifnb (fun hp => ?_) fun hp => ?_)
      · refine eats_spec (x := eatsP [90] F) (p := [122]) h fun W h => ?_
        refine a_not (ifnb (fun hp2 => ?_) fun hp2 => ?_)
        · refine offset_spec (x := eatsP [122] (eatsP [90] F)) (p := [58]) h fun W h => ?_
          (repeat (first | (with_reducible refine ift ?_) | (with_reducible refine iff' ?_) | (with_reducible refine a_lss ?_) | (with_reducible refine a_leq ?_) | (with_reducible refine a_gtr ?_) | (with_reducible refine a_geq ?_) | (with_reducible refine w_eql ?_) | (with_reducible refine w_neq ?_) | (with_reducible refine s_eql ?_) | (with_reducible refine s_neq ?_) | ((with_reducible refine a_add64 ?h0 ?h1 ?_); (case h0 => omega); (case h1 => omega);  skip) | ((with_reducible refine a_sub64 ?h0 ?h1 ?_); (case h0 => omega); (case h1 => omega);  skip) | ((with_reducible refine a_mul64 ?h0 ?h1 ?_); (case h0 => omega); (case h1 => omega);  skip) | (with_reducible refine a_notd ?_) | (with_reducible refine a_not ?_) | (with_reducible refine a_ext0 ?_) | (with_reducible refine a_ext1 ?_) | (with_reducible refine a_ext2 ?_) | (with_reducible refine x_len ?_) | (with_reducible refine x_lens ?_) | (with_reducible refine x_eqb ?_) | (with_reducible refine x_neb ?_) | (with_reducible refine x_nilP ?_) | (with_reducible refine x_nilPn ?_) | (with_reducible refine x_nilF ?_) | (with_reducible refine x_nilFF ?_) | (with_reducible refine w_eqlL ?_) | (with_reducible refine w_neqL ?_) | (with_reducible refine s_eqlL ?_) | (with_reducible refine ifnt ?_) | (with_reducible refine ifnf ?_) | (with_reducible refine x_eqB ?_) | (with_reducible refine x_neB ?_) | (with_reducible refine x_lssL ?_) | (with_reducible refine x_gtrL ?_) | (with_reducible refine x_geqL ?_) | (with_reducible refine s_neqL ?_) | (with_reducible refine St.load h ?_) | (with_reducible refine St.loadS h ?_) | (with_reducible refine a_fld0 ?_) | (with_reducible refine St.store h fun W h => ?_) | (with_reducible refine St.storeS h fun W h => ?_) | (with_reducible refine St.alloc h fun b W h => ?_) | (with_reducible refine St.allocS h fun b W h => ?_) | (with_reducible refine a_nil ?_) | (with_reducible refine ss_load ?_) | (with_reducible refine ss_loadS ?_) | (with_reducible refine ss_eqb ?_)))
          have e : zedP F = offsetP [58] (eatsP [122] (eatsP [90] F)) := by unfold zedP; simp [hp, show isPreD [122] (eatS F.1 [90]) = false from hp2]
          rw [e]
          exact ⟨rfl, h.to⟩
        · have e : zedP F = (0, eatsP [122] (eatsP [90] F)) := by unfold zedP; simp [hp, show isPreD [122] (eatS F.1 [90]) = true from hp2]
          rw [e]
          exact ⟨rfl, h⟩
      · have e : zedP F = (0, eatsP [90] F) := by unfold zedP; simp [hp]
        rw [e]
        exact ⟨rfl, h⟩
  · refine eats_spec (x := D.2) (p := [84]) h fun W h => ?_
    refine a_not (ifnb (fun hp => ?_) fun hp => ?_)
    · refine dwants_spec (x := eatsP [84] D.2) (p := [116]) h fun W h => ?_
      have e : teeP D.2 = wantsP [116] (eatsP [84] D.2) := by unfold teeP; simp [hp]
      rw [e]
      exact ⟨rfl, h⟩
    · have e : teeP D.2 = eatsP [84] D.2 := by unfold teeP; simp [hp]
      rw [e]
      exact ⟨rfl, h⟩
end
end Go.Proofs.YtlflpbflpcmckaaGreatDoor
namespace Go.Proofs.YtlflpbflpcmckaaGreatDoor
open Go Go.Ez Go.RowKit
set_option linter.unusedSimpArgs false
set_option linter.unusedVariables false
section
variable {w0 W W' : World} {G : Nat → Prop} {l R R1 : List As} {RR : Value → World → Prop} {x : RSt} {b : Nat} {p s : Txt}
abbrev StrO (ls : List Txt) : Value → As := Ow 9 1 ls.length (ls.map strV)
theorem wdays_spec (h : St w0 G l W) (k : ∀ v W', St w0 G (Ky v (StrO wdaysL) :: l) W' → RR v W') : CallF Tryz.prog 166 #[] W RR := by
  refine sh166_calls ?_
  unfold sh166
  exact h.lit fun v W' _ h => k v W' h
theorem months_spec (h : St w0 G l W) (k : ∀ v W', St w0 G (Ky v (StrO monthsL) :: l) W' → RR v W') : CallF Tryz.prog 167 #[] W RR := by
  refine sh167_calls ?_
  unfold sh167
  exact h.lit fun v W' _ h => k v W' h
theorem oneP_le (ls : List Txt) (s : Txt) : (oneP ls s).1 ≤ ls.length := by
  induction ls with
  | nil => exact Nat.le_refl _
  | cons p ls ih => unfold oneP; split; · simp
                    · split <;> simp; omega
/-- (*reader).one -/
theorem one_spec {ls : List Txt} {v : Value} [i : Has l b (RdO x) R1] [j : Has R1 v (StrO ls) R] (h : St w0 G l W) (hl : ls.length ≤ 1000) (k : ∀ W', St w0 G (Ky b (RdO ((oneP ls x.1).2, x.2)) :: R) W' → RR (nV .i64 (oneP ls x.1).1) W') :
    CallF Tryz.prog 165 #[.pointer (some ⟨b, 0, none⟩), v] W RR := by
  refine sh165_calls ?_
  unfold sh165
  refine v_func ?_
  have hle := oneP_le ls x.1
  refine idxf_spec (x := x) (ls := ls) (v := v) h hl fun W' h => ?_
  refine a_add64 (by omega) (by omega) ?_
  rw [show (1 + (((oneP ls x.1).1 : Int) - 1)) = ((oneP ls x.1).1 : Int) by omega]
  exact k W' h
/-- (*reader).year -/
theorem year_spec [i : Has l b (RdO x) R] (h : St w0 G l W) (hx : x.1.length ≤ 9223372036854775807) (k : ∀ W', St w0 G (Ky b (RdO (yearP x).2) :: R) W' → RR (.int .i64 (yearP x).1) W') : CallF Tryz.prog 168 #[.pointer (some ⟨b, 0, none⟩)] W RR := by
  refine sh168_calls ?_
  unfold sh168
  replace h := h.find (k := b) (X := RdO x)
  refine a_nil (a_fld0 (h.load (x_len ?_)))
  refine dnumber_spec (x := x) (least := 2) (most := 4) h (by decide) (by decide) fun W h => ?_
  refine a_nil (a_fld0 (h.load (x_len ?_)))
  have hr := numberP_rng (least := 2) (most := 4) (x := x)
  have hd := digs_len (most := 4) (s := x.1)
  have hlen : (numberP 2 4 x).2.1.length = x.1.length - (digs 4 x.1).length := by show (x.1.drop _).length = _; rw [List.length_drop]
  unfold yearP at k
  generalize hN : numberP 2 4 x = N at *
  rw [hlen]
  generalize hK : (digs 4 x.1).length = K at *
  refine a_sub64 (by omega) (by omega) ?_
  rw [show ((x.1.length : Int) - ((x.1.length - K : Nat) : Int)) = (K : Int) by omega]
  refine w_eql (ifd (fun h4 => ?_) fun h4 => ?_)
  · obtain rfl : K = 4 := by omega
    simp only [if_true] at k
    have := k W
    unfold badIf at this
    simp only [Nat.reduceEqDiff, decide_false, Bool.or_false] at this
    exact this h
  have hn4 : ¬ K = 4 := by omega
  simp only [hn4, if_false] at k
  refine jni (fun vs W' => vs = [.int .i64 N.1] ∧ St w0 G (Ky b (RdO (badIf (decide (K = 3)) N.2)) :: R) W') ?_ ?_
  · rintro vs W1 _ ⟨rfl, h⟩
    refine app1 ?_
    refine a_leq (ifd (fun hc => ?_) fun hc => ?_)
    · rw [if_pos hc] at k; exact a_add64 (by omega) (by omega) (k W1 h)
    · rw [if_neg hc] at k; exact a_add64 (by omega) (by omega) (k W1 h)
  · refine w_eql (ifd (fun h3 => ?_) fun h3 => ?_)
    · refine a_nil (a_fld0 (h.store fun W' h => ⟨rfl, ?_⟩))
      unfold badIf; rw [decide_eq_true (by omega), Bool.or_true]; exact h
    · refine ⟨rfl, ?_⟩
      unfold badIf; rw [decide_eq_false (by omega), Bool.or_false]; exact h
theorem hours_at {i : Nat} (h : i < 11) : (hoursL.map fun n => Value.int .i64 n)[i]? = some (.int .i64 (hoursL.getD i 0)) ∧ -8 ≤ hoursL.getD i 0 ∧ hoursL.getD i 0 ≤ 0 := by
  have : ∀ i : Fin 11, (hoursL.map fun n => Value.int .i64 n)[i.val]? = some (.int .i64 (hoursL.getD i.val 0)) ∧ -8 ≤ hoursL.getD i.val 0 ∧ hoursL.getD i.val 0 ≤ 0 := by
    intro i
    match i with
    | 0 | 1 | 2 | 3 | 4 | 5 | 6 | 7 | 8 | 9 | 10 => exact ⟨rfl, by decide, by decide⟩
  exact this ⟨i, h⟩
theorem zoneP_rng (x : RSt) : -400000 ≤ (zoneP x).1 ∧ (zoneP x).1 ≤ 400000 := by
  have hle := oneP_le zonesL x.1
  rw [show zonesL.length = 11 from rfl] at hle
  unfold zoneP
  split
  · have := hours_at (i := (oneP zonesL x.1).1 - 1) (by omega)
    simp only []
    omega
  · exact offsetP_rng _
/-- (*reader).zone -/
theorem zone_spec [i : Has l b (RdO x) R] (h : St w0 G l W) (k : ∀ W', St w0 G (Ky b (RdO (zoneP x).2) :: R) W' → RR (.int .i64 (zoneP x).1) W') : CallF Tryz.prog 169 #[.pointer (some ⟨b, 0, none⟩)] W RR := by
  refine sh169_calls ?_
  unfold sh169
  replace h := h.find (k := b) (X := RdO x)
  refine h.lit fun v W _ h => ?_
  replace h : St w0 G (Ky v (StrO zonesL) :: Ky b (RdO x) :: R) W := h
  refine h.lit fun u W _ h => ?_
  refine one_spec (x := x) (ls := zonesL) (v := v) h (by decide) fun W h => ?_
  have hle := oneP_le zonesL x.1
  rw [show zonesL.length = 11 from rfl] at hle
  unfold zoneP at k
  refine a_gtr (ifd (fun hc => ?_) fun hc => ?_)
  · rw [if_pos (by omega)] at k
    refine a_sub64 (by omega) (by omega) ?_
    rw [show (((oneP zonesL x.1).1 : Int) - 1) = (((oneP zonesL x.1).1 - 1 : Nat) : Int) by omega]
    obtain ⟨g1, g2, g3⟩ := hours_at (i := (oneP zonesL x.1).1 - 1) (by omega)
    refine x_at (h.osl (v := u)) g1 ?_
    refine a_mul64 (by omega) (by omega) ?_
    exact k W h.to
  · rw [if_neg (by omega)] at k
    refine offset_spec (x := ((oneP zonesL x.1).2, x.2)) (p := []) h fun W h => ?_
    exact k W h.to
/-- Mail -/
theorem mail_spec (h : St w0 G l W) (hs : s.length ≤ 9223372036854775807) (k : ∀ W', St w0 G l W' → RR (.tuple #[.int .i64 (mailP s).1, .int .i64 (mailP s).2]) W') : CallF Tryz.prog 138 #[strV s] W RR := by
  refine sh138_calls ?_
  unfold sh138
  refine x_bld (cells := #[strV s, .bool false]) rfl ?_
  refine h.boxS (cs := [strV s, .bool false]) fun b W h => ?_
  replace h : St w0 G (Ky b (RdO (s, false)) :: l) W := h
  refine jni (fun vs W' => vs = [.pointer (some ⟨b, 0, none⟩)] ∧ St w0 G (Ky b (RdO (wdayP s)) :: l) W') ?_ ?_
  · rintro vs W _ ⟨rfl, h⟩
    refine app1 ?_
    refine h.allocS fun q W h => ?_
    unfold mailP at k
    simp only [] at k
    refine dnumber_spec (x := wdayP s) (least := 1) (most := 2) h (by decide) (by decide) fun W h => ?_
    have hlen1 : (numberP 1 2 (wdayP s)).2.1.length ≤ s.length := Nat.le_trans (numberP_le _ _ _) (wdayP_le s)
    generalize hD : numberP 1 2 (wdayP s) = D at *
    (repeat (first | (with_reducible refine ift ?_) | (with_reducible refine iff' ?_) | (with_reducible refine a_lss ?_) | (with_reducible refine a_leq ?_) | (with_reducible refine a_gtr ?_) | (with_reducible refine a_geq ?_) | (with_reducible refine w_eql ?_) | (with_reducible refine w_neq ?_) | (with_reducible refine s_eql ?_) | (with_reducible refine s_neq ?_) | ((with_reducible refine a_add64 ?h0 ?h1 ?_); (case h0 => omega); (case h1 => omega);  skip) | ((with_reducible refine a_sub64 ?h0 ?h1 ?_); (case h0 => omega); (case h1 => omega);  skip) | ((with_reducible refine a_mul64 ?h0 ?h1 ?_); (case h0 => omega); (case h1 => omega);  skip) | (with_reducible refine a_notd ?_) | (with_reducible refine a_not ?_) | (with_reducible refine a_ext0 ?_) | (with_reducible refine a_ext1 ?_) | (with_reducible refine a_ext2 ?_) | (with_reducible refine x_len ?_) | (with_reducible refine x_lens ?_) | (with_reducible refine x_eqb ?_) | (with_reducible refine x_neb ?_) | (with_reducible refine x_nilP ?_) | (with_reducible refine x_nilPn ?_) | (with_reducible refine x_nilF ?_) | (with_reducible refine x_nilFF ?_) | (with_reducible refine w_eqlL ?_) | (with_reducible refine w_neqL ?_) | (with_reducible refine s_eqlL ?_) | (with_reducible refine ifnt ?_) | (with_reducible refine ifnf ?_) | (with_reducible refine x_eqB ?_) | (with_reducible refine x_neB ?_) | (with_reducible refine x_lssL ?_) | (with_reducible refine x_gtrL ?_) | (with_reducible refine x_geqL ?_) | (with_reducible refine s_neqL ?_) | (with_reducible refine St.load h ?_) | (with_reducible refine St.loadS h ?_) | (with_reducible refine a_fld0 ?_) | (with_reducible refine St.store h fun W h => ?_) | (with_reducible refine St.storeS h fun W h => ?_) | (with_reducible refine St.alloc h fun b W h => ?_) | (with_reducible refine St.allocS h fun b W h => ?_) | (with_reducible refine a_nil ?_) | (with_reducible refine ss_load ?_) | (with_reducible refine ss_loadS ?_) | (with_reducible refine ss_eqb ?_)))
    refine dwants_spec (x := D.2) (p := [32]) h fun W h => ?_
    refine months_spec h fun v W h => ?_
    refine one_spec (x := wantsP [32] D.2) (ls := monthsL) (v := v) h (by decide) fun W h => ?_
    (repeat (first | (with_reducible refine ift ?_) | (with_reducible refine iff' ?_) | (with_reducible refine a_lss ?_) | (with_reducible refine a_leq ?_) | (with_reducible refine a_gtr ?_) | (with_reducible refine a_geq ?_) | (with_reducible refine w_eql ?_) | (with_reducible refine w_neq ?_) | (with_reducible refine s_eql ?_) | (with_reducible refine s_neq ?_) | ((with_reducible refine a_add64 ?h0 ?h1 ?_); (case h0 => omega); (case h1 => omega);  skip) | ((with_reducible refine a_sub64 ?h0 ?h1 ?_); (case h0 => omega); (case h1 => omega);  skip) | ((with_reducible refine a_mul64 ?h0 ?h1 ?_); (case h0 => omega); (case h1 => omega);  skip) | (with_reducible refine a_notd ?_) | (with_reducible refine a_not ?_) | (with_reducible refine a_ext0 ?_) | (with_reducible refine a_ext1 ?_) | (with_reducible refine a_ext2 ?_) | (with_reducible refine x_len ?_) | (with_reducible refine x_lens ?_) | (with_reducible refine x_eqb ?_) | (with_reducible refine x_neb ?_) | (with_reducible refine x_nilP ?_) | (with_reducible refine x_nilPn ?_) | (with_reducible refine x_nilF ?_) | (with_reducible refine x_nilFF ?_) | (with_reducible refine w_eqlL ?_) | (with_reducible refine w_neqL ?_) | (with_reducible refine s_eqlL ?_) | (with_reducible refine ifnt ?_) | (with_reducible refine ifnf ?_) | (with_reducible refine x_eqB ?_) | (with_reducible refine x_neB ?_) | (with_reducible refine x_lssL ?_) | (with_reducible refine x_gtrL ?_) | (with_reducible refine x_geqL ?_) | (with_reducible refine s_neqL ?_) | (with_reducible refine St.load h ?_) | (with_reducible refine St.loadS h ?_) | (with_reducible refine a_fld0 ?_) | (with_reducible refine St.store h fun W h => ?_) | (with_reducible refine St.storeS h fun W h => ?_) | (with_reducible refine St.alloc h fun b W h => ?_) | (with_reducible refine St.allocS h fun b W h => ?_) | (with_reducible refine a_nil ?_) | (with_reducible refine ss_load ?_) | (with_reducible refine ss_loadS ?_) | (with_reducible refine ss_eqb ?_)))
    generalize hX : wantsP [32] D.2 = X at *
    have hM : monthP X = ((oneP monthsL X.1).1, badIf (decide ((oneP monthsL X.1).1 = 0)) ((oneP monthsL X.1).2, X.2)) := rfl
    refine jni (fun vs W' => vs = [.pointer (some ⟨b, 0, none⟩), .pointer (some ⟨q, 0, none⟩)] ∧ St w0 G (Ky b (RdO (monthP X).2) :: Ky q (Ob (.cells [.int .i64 0, nV .i64 (monthP X).1, .int .i64 D.1, .int .i64 0, .int .i64 0, .int .i64 0, .int .i64 0].toArray 199 (0, 0))) :: l) W') ?_ ?_
    · rintro vs W _ ⟨rfl, h⟩
      refine app2 ?_
      have hlen2 : (wantsP [32] (monthP X).2).1.length ≤ 9223372036854775807 := by
        have h1 := wantsP_le [32] (monthP X).2
        have h2 := monthP_le X
        have h3 := wantsP_le [32] D.2
        rw [hX] at h3
        omega
      generalize hMM : monthP X = M at *
      refine dwants_spec (x := M.2) (p := [32]) h fun W h => ?_
      refine year_spec (x := wantsP [32] M.2) h hlen2 fun W h => ?_
      generalize hY : yearP (wantsP [32] M.2) = Y at *
      (repeat (first | (with_reducible refine ift ?_) | (with_reducible refine iff' ?_) | (with_reducible refine a_lss ?_) | (with_reducible refine a_leq ?_) | (with_reducible refine a_gtr ?_) | (with_reducible refine a_geq ?_) | (with_reducible refine w_eql ?_) | (with_reducible refine w_neq ?_) | (with_reducible refine s_eql ?_) | (with_reducible refine s_neq ?_) | ((with_reducible refine a_add64 ?h0 ?h1 ?_); (case h0 => omega); (case h1 => omega);  skip) | ((with_reducible refine a_sub64 ?h0 ?h1 ?_); (case h0 => omega); (case h1 => omega);  skip) | ((with_reducible refine a_mul64 ?h0 ?h1 ?_); (case h0 => omega); (case h1 => omega);  skip) | (with_reducible refine a_notd ?_) | (with_reducible refine a_not ?_) | (with_reducible refine a_ext0 ?_) | (with_reducible refine a_ext1 ?_) | (with_reducible refine a_ext2 ?_) | (with_reducible refine x_len ?_) | (with_reducible refine x_lens ?_) | (with_reducible refine x_eqb ?_) | (with_reducible refine x_neb ?_) | (with_reducible refine x_nilP ?_) | (with_reducible refine x_nilPn ?_) | (with_reducible refine x_nilF ?_) | (with_reducible refine x_nilFF ?_) | (with_reducible refine w_eqlL ?_) | (with_reducible refine w_neqL ?_) | (with_reducible refine s_eqlL ?_) | (with_reducible refine ifnt ?_) | (with_reducible refine ifnf ?_) | (with_reducible refine x_eqB ?_) | (with_reducible refine x_neB ?_) | (with_reducible refine x_lssL ?_) | (with_reducible refine x_gtrL ?_) | (with_reducible refine x_geqL ?_) | (with_reducible refine s_neqL ?_) | (with_reducible refine St.load h ?_) | (with_reducible refine St.loadS h ?_) | (with_reducible refine a_fld0 ?_) | (with_reducible refine St.store h fun W h => ?_) | (with_reducible refine St.storeS h fun W h => ?_) | (with_reducible refine St.alloc h fun b W h => ?_) | (with_reducible refine St.allocS h fun b W h => ?_) | (with_reducible refine a_nil ?_) | (with_reducible refine ss_load ?_) | (with_reducible refine ss_loadS ?_) | (with_reducible refine ss_eqb ?_)))
      refine dwants_spec (x := Y.2) (p := [32]) h fun W h => ?_
      refine dnumber_spec (x := wantsP [32] Y.2) (least := 2) (most := 2) h (by decide) (by decide) fun W h => ?_
      generalize hH : numberP 2 2 (wantsP [32] Y.2) = H at *
      (repeat (first | (with_reducible refine ift ?_) | (with_reducible refine iff' ?_) | (with_reducible refine a_lss ?_) | (with_reducible refine a_leq ?_) | (with_reducible refine a_gtr ?_) | (with_reducible refine a_geq ?_) | (with_reducible refine w_eql ?_) | (with_reducible refine w_neq ?_) | (with_reducible refine s_eql ?_) | (with_reducible refine s_neq ?_) | ((with_reducible refine a_add64 ?h0 ?h1 ?_); (case h0 => omega); (case h1 => omega);  skip) | ((with_reducible refine a_sub64 ?h0 ?h1 ?_); (case h0 => omega); (case h1 => omega);  skip) | ((with_reducible refine a_mul64 ?h0 ?h1 ?_); (case h0 => omega); (case h1 => omega);  skip) | (with_reducible refine a_notd ?_) | (with_reducible refine a_not ?_) | (with_reducible refine a_ext0 ?_) | (with_reducible refine a_ext1 ?_) | (with_reducible refine a_ext2 ?_) | (with_reducible refine x_len ?_) | (with_reducible refine x_lens ?_) | (with_reducible refine x_eqb ?_) | (with_reducible refine x_neb ?_) | (with_reducible refine x_nilP ?_) | (with_reducible refine x_nilPn ?_) | (with_reducible refine x_nilF ?_) | (with_reducible refine x_nilFF ?_) | (with_reducible refine w_eqlL ?_) | (with_reducible refine w_neqL ?_) | (with_reducible refine s_eqlL ?_) | (with_reducible refine ifnt ?_) | (with_reducible refine ifnf ?_) | (with_reducible refine x_eqB ?_) | (with_reducible refine x_neB ?_) | (with_reducible refine x_lssL ?_) | (with_reducible refine x_gtrL ?_) | (with_reducible refine x_geqL ?_) | (with_reducible refine s_neqL ?_) | (with_reducible refine St.load h ?_) | (with_reducible refine St.loadS h ?_) | (with_reducible refine a_fld0 ?_) | (with_reducible refine St.store h fun W h => ?_) | (with_reducible refine St.storeS h fun W h => ?_) | (with_reducible refine St.alloc h fun b W h => ?_) | (with_reducible refine St.allocS h fun b W h => ?_) | (with_reducible refine a_nil ?_) | (with_reducible refine ss_load ?_) | (with_reducible refine ss_loadS ?_) | (with_reducible refine ss_eqb ?_)))
      refine dwants_spec (x := H.2) (p := [58]) h fun W h => ?_
      refine dnumber_spec (x := wantsP [58] H.2) (least := 2) (most := 2) h (by decide) (by decide) fun W h => ?_
      generalize hI : numberP 2 2 (wantsP [58] H.2) = I at *
      (repeat (first | (with_reducible refine ift ?_) | (with_reducible refine iff' ?_) | (with_reducible refine a_lss ?_) | (with_reducible refine a_leq ?_) | (with_reducible refine a_gtr ?_) | (with_reducible refine a_geq ?_) | (with_reducible refine w_eql ?_) | (with_reducible refine w_neq ?_) | (with_reducible refine s_eql ?_) | (with_reducible refine s_neq ?_) | ((with_reducible refine a_add64 ?h0 ?h1 ?_); (case h0 => omega); (case h1 => omega);  skip) | ((with_reducible refine a_sub64 ?h0 ?h1 ?_); (case h0 => omega); (case h1 => omega);  skip) | ((with_reducible refine a_mul64 ?h0 ?h1 ?_); (case h0 => omega); (case h1 => omega);  skip) | (with_reducible refine a_notd ?_) | (with_reducible refine a_not ?_) | (with_reducible refine a_ext0 ?_) | (with_reducible refine a_ext1 ?_) | (with_reducible refine a_ext2 ?_) | (with_reducible refine x_len ?_) | (with_reducible refine x_lens ?_) | (with_reducible refine x_eqb ?_) | (with_reducible refine x_neb ?_) | (with_reducible refine x_nilP ?_) | (with_reducible refine x_nilPn ?_) | (with_reducible refine x_nilF ?_) | (with_reducible refine x_nilFF ?_) | (with_reducible refine w_eqlL ?_) | (with_reducible refine w_neqL ?_) | (with_reducible refine s_eqlL ?_) | (with_reducible refine ifnt ?_) | (with_reducible refine ifnf ?_) | (with_reducible refine x_eqB ?_) | (with_reducible refine x_neB ?_) | (with_reducible refine x_lssL ?_) | (with_reducible refine x_gtrL ?_) | (with_reducible refine x_geqL ?_) | (with_reducible refine s_neqL ?_) | (with_reducible refine St.load h ?_) | (with_reducible refine St.loadS h ?_) | (with_reducible refine a_fld0 ?_) | (with_reducible refine St.store h fun W h => ?_) | (with_reducible refine St.storeS h fun W h => ?_) | (with_reducible refine St.alloc h fun b W h => ?_) | (with_reducible refine St.allocS h fun b W h => ?_) | (with_reducible refine a_nil ?_) | (with_reducible refine ss_load ?_) | (with_reducible refine ss_loadS ?_) | (with_reducible refine ss_eqb ?_)))
      refine jni (fun vs W' => vs = [.pointer (some ⟨b, 0, none⟩), .pointer (some ⟨q, 0, none⟩)] ∧ St w0 G (Ky b (RdO (colP I.2).2) :: Ky q (Ob (.cells [.int .i64 Y.1, nV .i64 M.1, .int .i64 D.1, .int .i64 H.1, .int .i64 I.1, .int .i64 (colP I.2).1, .int .i64 0].toArray 199 (0, 0))) :: l) W') ?_ ?_
      · rintro vs W _ ⟨rfl, h⟩
        refine app2 ?_
        generalize hC : colP I.2 = C at *
        refine dwants_spec (x := C.2) (p := [32]) h fun W h => ?_
        have hz := zoneP_rng (wantsP [32] C.2)
        refine zone_spec (x := wantsP [32] C.2) h fun W h => ?_
        generalize hZ : zoneP (wantsP [32] C.2) = Z at *
        (repeat (first | (with_reducible refine ift ?_) | (with_reducible refine iff' ?_) | (with_reducible refine a_lss ?_) | (with_reducible refine a_leq ?_) | (with_reducible refine a_gtr ?_) | (with_reducible refine a_geq ?_) | (with_reducible refine w_eql ?_) | (with_reducible refine w_neq ?_) | (with_reducible refine s_eql ?_) | (with_reducible refine s_neq ?_) | ((with_reducible refine a_add64 ?h0 ?h1 ?_); (case h0 => omega); (case h1 => omega);  skip) | ((with_reducible refine a_sub64 ?h0 ?h1 ?_); (case h0 => omega); (case h1 => omega);  skip) | ((with_reducible refine a_mul64 ?h0 ?h1 ?_); (case h0 => omega); (case h1 => omega);  skip) | (with_reducible refine a_notd ?_) | (with_reducible refine a_not ?_) | (with_reducible refine a_ext0 ?_) | (with_reducible refine a_ext1 ?_) | (with_reducible refine a_ext2 ?_) | (with_reducible refine x_len ?_) | (with_reducible refine x_lens ?_) | (with_reducible refine x_eqb ?_) | (with_reducible refine x_neb ?_) | (with_reducible refine x_nilP ?_) | (with_reducible refine x_nilPn ?_) | (with_reducible refine x_nilF ?_) | (with_reducible refine x_nilFF ?_) | (with_reducible refine w_eqlL ?_) | (with_reducible refine w_neqL ?_) | (with_reducible refine s_eqlL ?_) | (with_reducible refine ifnt ?_) | (with_reducible refine ifnf ?_) | (with_reducible refine x_eqB ?_) | (with_reducible refine x_neB ?_) | (with_reducible refine x_lssL ?_) | (with_reducible refine x_gtrL ?_) | (with_reducible refine x_geqL ?_) | (with_reducible refine s_neqL ?_) | (with_reducible refine St.load h ?_) | (with_reducible refine St.loadS h ?_) | (with_reducible refine a_fld0 ?_) | (with_reducible refine St.store h fun W h => ?_) | (with_reducible refine St.storeS h fun W h => ?_) | (with_reducible refine St.alloc h fun b W h => ?_) | (with_reducible refine St.allocS h fun b W h => ?_) | (with_reducible refine a_nil ?_) | (with_reducible refine ss_load ?_) | (with_reducible refine ss_loadS ?_) | (with_reducible refine ss_eqb ?_)))
        refine second_spec (x := Z.2) h hz fun W h => ?_
        refine a_ext0 (a_ext1 ?_)
        exact k W h.to
      · refine eats_spec (x := I.2) (p := [58]) h fun W h => ?_
        refine ifb (fun hp => ?_) fun hp => ?_
        · refine dnumber_spec (x := eatsP [58] I.2) (least := 2) (most := 2) h (by decide) (by decide) fun W h => ?_
          have e : colP I.2 = numberP 2 2 (eatsP [58] I.2) := by unfold colP; simp [hp]
          rw [← e] at h ⊢
          (repeat (first | (with_reducible refine ift ?_) | (with_reducible refine iff' ?_) | (with_reducible refine a_lss ?_) | (with_reducible refine a_leq ?_) | (with_reducible refine a_gtr ?_) | (with_reducible refine a_geq ?_) | (with_reducible refine w_eql ?_) | (with_reducible refine w_neq ?_) | (with_reducible refine s_eql ?_) | (with_reducible refine s_neq ?_) | ((with_reducible refine a_add64 ?h0 ?h1 ?_); (case h0 => omega); (case h1 => omega);  skip) | ((with_reducible refine a_sub64 ?h0 ?h1 ?_); (case h0 => omega); (case h1 => omega);  skip) | ((with_reducible refine a_mul64 ?h0 ?h1 ?_); (case h0 => omega); (case h1 => omega);  skip) | (with_reducible refine a_notd ?_) | (with_reducible refine a_not ?_) | (with_reducible refine a_ext0 ?_) | (with_reducible refine a_ext1 ?_) | (with_reducible refine a_ext2 ?_) | (with_reducible refine x_len ?_) | (with_reducible refine x_lens ?_) | (with_reducible refine x_eqb ?_) | (with_reducible refine x_neb ?_) | (with_reducible refine x_nilP ?_) | (with_reducible refine x_nilPn ?_) | (with_reducible refine x_nilF ?_) | (with_reducible refine x_nilFF ?_) | (with_reducible refine w_eqlL ?_) | (with_reducible refine w_neqL ?_) | (with_reducible refine s_eqlL ?_) | (with_reducible refine ifnt ?_) | (with_reducible refine ifnf ?_) | (with_reducible refine x_eqB ?_) | (with_reducible refine x_neB ?_) | (with_reducible refine x_lssL ?_) | (with_reducible refine x_gtrL ?_) | (with_reducible refine x_geqL ?_) | (with_reducible refine s_neqL ?_) | (with_reducible refine St.load h ?_) | (with_reducible refine St.loadS h ?_) | (with_reducible refine a_fld0 ?_) | (with_reducible refine St.store h fun W h => ?_) | (with_reducible refine St.storeS h fun W h => ?_) | (with_reducible refine St.alloc h fun b W h => ?_) | (with_reducible refine St.allocS h fun b W h => ?_) | (with_reducible refine a_nil ?_) | (with_reducible refine ss_load ?_) | (with_reducible refine ss_loadS ?_) | (with_reducible refine ss_eqb ?_)))
          exact ⟨rfl, h.swap⟩
        · have e : colP I.2 = (0, eatsP [58] I.2) := by unfold colP; simp [hp]
          rw [e]
          exact ⟨rfl, h⟩
    · refine a_fld0 (h.load (w_eql (ifd (fun h0 => ?_) fun h0 => ?_)))
      · refine a_nil (a_fld0 (h.store fun W' h => ⟨rfl, ?_⟩))
        rw [hM]
        unfold badIf; rw [decide_eq_true (by omega), Bool.or_true]; exact h
      · refine ⟨rfl, ?_⟩
        rw [hM]
        unfold badIf; rw [decide_eq_false (by omega), Bool.or_false]; exact h.swap
  · refine wdays_spec h fun v W h => ?_
    refine one_spec (x := (s, false)) (ls := wdaysL) (v := v) h (by decide) fun W h => ?_
    refine a_gtr (ifd (fun hc => ?_) fun hc => ?_)
    · replace hc : (0 : Int) < ((oneP wdaysL s).1 : Int) := hc
      refine dwants_spec (x := ((oneP wdaysL s).2, false)) (p := [44, 32]) h fun W h => ?_
      have e : wdayP s = wantsP [44, 32] ((oneP wdaysL s).2, false) := by unfold wdayP; rw [if_pos (by omega)]
      rw [e]
      exact ⟨rfl, h⟩
    · replace hc : ¬ (0 : Int) < ((oneP wdaysL s).1 : Int) := hc
      have e : wdayP s = ((oneP wdaysL s).2, false) := by unfold wdayP; rw [if_neg (by omega)]
      rw [e]
      exact ⟨rfl, h⟩
/-- Any -/
theorem any_spec (h : St w0 G l W) (hs : s.length ≤ 9223372036854775807) (k : ∀ W', St w0 G l W' → RR (.tuple #[.int .i64 (anyP s).1, .int .i64 (anyP s).2]) W') : CallF Tryz.prog 115 #[strV s] W RR := by
  refine sh115_calls ?_
  unfold sh115
  refine net_spec h fun W h => ?_
  refine a_ext0 (a_ext1 (w_neq (ifd (fun hc => ?_) fun hc => ?_)))
  · have e : anyP s = netP s := by unfold anyP; rw [if_neg hc]
    rw [e] at k
    exact k W h
  · have e : anyP s = mailP s := by unfold anyP; rw [if_pos (by omega)]
    rw [e] at k
    refine mail_spec h hs fun W h => ?_
    exact a_ext0 (a_ext1 (k W h))
end
end Go.Proofs.YtlflpbflpcmckaaGreatDoor
namespace Go.Proofs.YtlflpbflpcmckaaGreatDoor
open Go Go.Ez Go.RowKit
set_option linter.unusedSimpArgs false
set_option linter.unusedVariables false
section
variable {w0 W W' : World} {G : Nat → Prop} {l R : List As} {RR : Value → World → Prop} {s p : Txt} {c : UInt8} {b : Nat}
theorem blSet (c : UInt8) : (([32, 9, 10, 13] : Txt).any fun d => d.toNat == c.toNat) = XRd.isBl c := by
  unfold XRd.isBl
  simp only [List.any_cons, List.any_nil, Bool.or_false]
  have h : ∀ d : UInt8, (d.toNat == c.toNat) = (c == d) := fun d => by
    rw [Bool.eq_iff_iff]
    simp only [beq_iff_eq]
    exact ⟨fun h => (UInt8.toNat_inj.1 h).symm, fun h => by rw [h]⟩
  rw [h, h, h, h, Bool.or_assoc, Bool.or_assoc]
theorem trimRSet_spec [i : Has l b (SetO [32, 9, 10, 13]) R] (h : St w0 G l W) (hs : s.length ≤ 9223372036854775807) (k : RR (strV (rtr s)) W) : CallF Tryz.prog 58 #[strV s, .pointer (some ⟨b, 0, none⟩)] W RR := by
  refine sh58_calls ?_
  unfold sh58
  refine jni (fun vs W' => vs = [strV (rtr s)] ∧ W' = W) (by rintro vs W' _ ⟨rfl, rfl⟩; exact k) ?_
  refine lpx (α := Txt) (fun t => [strV t]) (fun t W' => rtr t = rtr s ∧ t.length ≤ s.length ∧ W' = W) List.length s (fun _ => rfl) rfl ⟨rfl, Nat.le_refl _, rfl⟩ ?_
  rintro next t W1 hnext ⟨ht, htl, rfl⟩
  refine app1 ?_
  refine x_len (a_gtr (ifd (fun hc => ?_) fun hc => ?_))
  · obtain ⟨u, c, rfl⟩ : ∃ u c, t = u ++ [c] := ⟨t.dropLast, t.getLast (by intro e; subst e; simp at hc), (List.dropLast_concat_getLast _).symm⟩
    have hl : (u ++ [c]).length = u.length + 1 := by simp
    rw [hl] at hc htl
    refine x_len (a_sub64 (by omega) (by omega) ?_)
    rw [hl, show ((u.length + 1 : Nat) : Int) - 1 = (u.length : Int) by omega]
    refine x_index (i := u.length) (c := c) (by simp) ?_
    refine dcontains_spec (p := [32, 9, 10, 13]) h ?_
    rw [blSet]
    refine a_not (ifnb (fun hp => ?_) fun hp => ?_)
    · refine ⟨?_, rfl⟩
      rw [← ht, rtr_snoc, if_neg (by simp [hp])]
    · refine x_len (a_sub64 (by omega) (by omega) ?_)
      rw [hl, show ((u.length + 1 : Nat) : Int) - 1 = (u.length : Int) by omega]
      refine x_cutH (hi := u.length) (by omega) ⟨rfl, ?_⟩
      rw [List.take_left]
      refine hnext u _ (by omega) ⟨?_, by omega, rfl⟩
      rw [← ht, rtr_snoc, if_pos hp]
  · have : t = [] := List.eq_nil_of_length_eq_zero (by omega)
    subst this
    exact ⟨by rw [← ht]; rfl, rfl⟩
theorem trims_spec (h : St w0 G l W) (hl : s.length ≤ 9223372036854775807) (k : ∀ W', St w0 G l W' → RR (strV (trimX s)) W') : CallF Tryz.prog 29 #[strV s, .string ⟨#[32, 9, 10, 13]⟩] W RR := by
  refine sh29_calls ?_
  unfold sh29
  refine w_eqlL (b := []) (ifd (fun hs => ?_) fun hs => ?_)
  · subst hs; exact k W h
  refine w_eqlL (a := [32, 9, 10, 13]) (b := []) (ifd_neg (by decide) ?_)
  refine jni (fun vs W' => vs = [strV s, strV [32, 9, 10, 13]] ∧ W' = W) ?_ ?_
  · rintro vs W' _ ⟨rfl, rfl⟩
    refine app2 ?_
    refine makeSet_spec h (by decide) (by decide) fun W1 h => ?_
    refine a_ext0 (a_ext1 ?_)
    refine h.allocS fun b W2 h => h.storeS fun W3 h => ift ?_
    refine trimRSet_spec h hl ?_
    refine trimSet_spec (p := [32, 9, 10, 13]) h ?_
    have := k W3 h.to
    rw [show (fun c : UInt8 => ([32, 9, 10, 13] : Txt).any fun d => d.toNat == c.toNat) = XRd.isBl from funext blSet]
    exact this
  · refine x_len (l := [32, 9, 10, 13]) (w_eql (ifd_neg (by decide) ?_))
    exact ⟨rfl, rfl⟩
theorem ftrim_spec (h : St w0 G l W) (hl : s.length ≤ 9223372036854775807) (k : ∀ W', St w0 G l W' → RR (strV (trimX s)) W') : CallF Tryz.prog 15 #[strV s] W RR := by
  refine sh15_calls ?_
  unfold sh15
  exact trims_spec h hl k
end
end Go.Proofs.YtlflpbflpcmckaaGreatDoor
namespace Go.Proofs.YtlflpbflpcmckaaGreatDoor
open Go Go.Ez Go.RowKit Go.Lib
set_option linter.unusedSimpArgs false
set_option linter.unusedVariables false
section
variable {w0 W W' : World} {G : Nat → Prop} {l R R1 R2 : List As} {RR : Value → World → Prop} {s sp nm : Txt} {v : Value} {ts : List XTk} {t : XTk} {i n b : Nat} {K : Value → Prop} {k0 : IntKind}
/-- tokens that are few and small -/
structure Few (ts : List XTk) : Prop where
  n : ts.length ≤ 90000
  a : ∀ t ∈ ts, t.attrs.length ≤ 1000000
  x : ∀ t ∈ ts, t.text.length ≤ 1000000
  v : ∀ t ∈ ts, ∀ a ∈ t.attrs, a.value.length ≤ 1000000000
theorem Few.sub {p : Nat × Nat} (h : Few ts) : Few (subN ts p) := ⟨Nat.le_trans subN_len h.n, fun t ht => h.a t (subN_mem ht), fun t ht => h.x t (subN_mem ht), fun t ht => h.v t (subN_mem ht)⟩
theorem Few.nil : Few [] := ⟨by decide, by simp, by simp, by simp⟩
/-- a part of a slice -/
def subV (v : Value) (p : Nat × Nat) : Value := match v with
  | .slice ao _ cap => Go.sliced ao p.1 p.2 cap 5
  | v => v
theorem Toks.sub {p : Nat × Nat} (ht : Toks W v ts) (h1 : p.1 ≤ p.2) (h2 : p.2 ≤ ts.length) : Toks W (subV v p) (subN ts p) := by
  obtain ⟨ov, ho, hs, hat⟩ := ht
  have l1 : ov.length = ts.length := by rw [← ho, List.length_map]
  have hs' := hs
  obtain ⟨ao, cap, rfl, _⟩ := hs
  have h3 := hs'.sliced h1 (by omega)
  refine ⟨(ov.drop p.1).take (p.2 - p.1), by rw [List.map_take, List.map_drop, ho]; rfl, ?_, fun q hq => hat q (List.mem_of_mem_drop (List.mem_of_mem_take hq))⟩
  rw [rc_take tcell_len, rc_drop tcell_len, List.length_take, List.length_drop, Nat.min_eq_left (by omega)]
  exact h3
theorem x_subV {a b : Nat} (ht : Toks W v ts) (h1 : a ≤ b) (h2 : b ≤ ts.length) (k : K (subV v (a, b))) : RunA Tryz.prog (Instr.sliceAt 58 v (some (.int .i64 (a : Int))) (some (.int .i64 (b : Int))) none) K := by
  obtain ⟨ov, ho, hs, hat⟩ := ht
  have l1 : ov.length = ts.length := by rw [← ho, List.length_map]
  obtain ⟨ao, cap, rfl, hnc, _⟩ := hs
  have S := SlT.el (P := Tryz.prog) (t := 58)
  have hu : Tryz.prog.underlying 58 = some (.slice (Tryz.prog.elem 58)) := by rw [S.und]; simp [Program.elem, S.und]
  have hel : Tryz.prog.elem 58 = 88 := by simp [Program.elem, S.und]
  refine .of (v := Go.sliced ao a b cap 5) (fun w => ?_) k
  rw [run_sliceAt_slice w 58 _ _ _ _ hu, run_slice_lh w 58 ao ov.length cap hu .i64 .i64 a b (by omega) (by omega) (by omega), hel, S.size]
  rfl
theorem x_nd {f off : Nat} {ty : TypeId} {z u : Value} [F : Fld Tryz.prog 88 f off] [T : Ty1 Tryz.prog ty z] (ht : Toks W v ts) (hi : ts[i]? = some t) (ho : off < 5) (hu : ∀ va, (tcell (t, va))[off]? = some u) (k : K u) :
    RunA Tryz.prog (Instr.indexAt 58 v (.int k0 (i : Int))) fun p => RunA Tryz.prog (Instr.fieldAt 88 p f) fun q => RunW Tryz.prog (Instr.loadAt ty q) W K := by
  obtain ⟨ov, h1, h2, _⟩ := ht
  obtain ⟨va, hva⟩ := tk_ov h1 hi
  have hil := (List.getElem?_eq_some_iff.1 hva).1
  exact x_fld h2 (by omega) ho (by rw [rc_get tcell_len hva ho]; exact hu va) k
theorem x_nds {S : World → Prop} {f off : Nat} {ty : TypeId} {z u : Value} [F : Fld Tryz.prog 88 f off] [T : Ty1 Tryz.prog ty z] (ht : Toks w0 v ts) (hS : ∀ w, S w → Below w0.heap.size w0 w) (hi : ts[i]? = some t) (ho : off < 5) (hu : ∀ va, (tcell (t, va))[off]? = some u) (k : K u) :
    RunA Tryz.prog (Instr.indexAt 58 v (.int k0 (i : Int))) fun p => RunA Tryz.prog (Instr.fieldAt 88 p f) fun q => RunS Tryz.prog S (Instr.loadAt ty q) K := by
  obtain ⟨ov, h1, h2, _⟩ := ht
  obtain ⟨va, hva⟩ := tk_ov h1 hi
  have hil := (List.getElem?_eq_some_iff.1 hva).1
  exact x_sfld h2 (fun w hw => h2.below (hS w hw)) (by omega) ho (by rw [rc_get tcell_len hva ho]; exact hu va) k
abbrev chFn (t3 t4 t5 : Nat) : Value := .func (.func 85) #[] #[.pointer (some ⟨t3, 0, none⟩), .pointer (some ⟨t4, 0, none⟩), .pointer (some ⟨t5, 0, none⟩)]
abbrev ChL (t3 t4 t5 : Nat) (v : Value) (sp nm : Txt) (l : List As) : List As := Ky t3 (Ob (.cells [v].toArray 58 (0, 0))) :: Ky t4 (Ob (.cells [strV sp].toArray 9 (0, 0))) :: Ky t5 (Ob (.cells [strV nm].toArray 9 (0, 0))) :: l
def ChA (t3 t4 t5 : Nat) (v : Value) (sp nm : Txt) (_ : Value) : As := As.all True (ChL t3 t4 t5 v sp nm [])
def kidsV (v : Value) (sp nm : Txt) (ts : List XTk) : List (List Value) := (kids sp nm ts).map fun p => [subV v p]
theorem children_itr {t3 t4 t5 : Nat} (ht : Toks w0 v ts) (hf : Few ts) : Itr Tryz.prog w0 G0 (chFn t3 t4 t5) (kidsV v sp nm ts) (ChA t3 t4 t5 v sp nm) := by
  refine ⟨85, _, rfl, hentD _ (by kernel_rfl), fun yv C D I W RR oy hY h hd hst => ?_⟩
  show CallF Tryz.prog 85 #[yv, .pointer (some ⟨t3, 0, none⟩), .pointer (some ⟨t4, 0, none⟩), .pointer (some ⟨t5, 0, none⟩)] W RR
  refine sh85_calls ?_
  unfold sh85
  replace h : St w0 G0 (As.all True (ChL t3 t4 t5 v sp nm []) :: Ky 0 C :: I) W := h.swap
  replace h : St w0 G0 (ChL t3 t4 t5 v sp nm (Ky 0 C :: I)) W := h.openA.2
  replace h : St w0 G0 (Ky 0 C :: ChL t3 t4 t5 v sp nm I) W := h.to
  have shut : ∀ {q : Nat} {X : Nat → As} {W : World}, St w0 G0 (Ky q X :: ChL t3 t4 t5 v sp nm I) W → St w0 G0 (Ky q X :: Ky (chFn t3 t4 t5) (ChA t3 t4 t5 v sp nm) :: I) W := fun {q X W} h => by
    have h' : St w0 G0 (ChL t3 t4 t5 v sp nm (Ky q X :: I)) W := h.to
    exact St.swap (St.shutA (L := ChL t3 t4 t5 v sp nm []) trivial h')
  have hlen : (kidsV v sp nm ts).length = (kids sp nm ts).length := by unfold kidsV; rw [List.length_map]
  obtain ⟨cs, hcs⟩ := tk_len ht
  have hfn := hf.n
  refine lpx (α := Nat × Nat × Nat) (fun A => [nV .i64 A.1]) (fun A W => ts.length ≤ A.2.2 + A.1 ∧ A.2.1 ≤ (kids sp nm ts).length ∧ (kids sp nm ts).drop A.2.1 = kidsGo sp nm ts A.2.2 A.1 ∧ St w0 G0 (Ky A.2.1 C :: ChL t3 t4 t5 v sp nm I) W) (fun A => ts.length - A.1) (1, 0, ts.length) (fun _ => rfl) rfl ⟨by simp, Nat.zero_le _, rfl, h⟩ ?_
  clear h
  rintro next ⟨i, q, f⟩ W hnext ⟨q1, q2, q3, h⟩
  simp only at q1 q2 q3 h
  refine app1 ?_
  refine h.load (x_lenS hcs (a_lss (ifd (fun hc => ?_) fun hc => ?_)))
  · have hil : i < ts.length := by omega
    have ga : ts[i]? = some ts[i] := List.getElem?_eq_getElem hil
    generalize ts[i] = t at ga
    obtain ⟨f, rfl⟩ : ∃ g, f = g + 1 := ⟨f - 1, by omega⟩
    unfold kidsGo at q3
    rw [ga] at q3
    simp only at q3
    refine jni (fun vs W' => ∃ A : Nat × Nat × Nat, vs = [yv, .pointer (some ⟨t3, 0, none⟩), .pointer (some ⟨t4, 0, none⟩), .pointer (some ⟨t5, 0, none⟩), nV .i64 A.1] ∧ i < A.1 ∧ ts.length ≤ A.2.2 + A.1 ∧ A.2.1 ≤ (kids sp nm ts).length ∧ (kids sp nm ts).drop A.2.1 = kidsGo sp nm ts A.2.2 A.1 ∧ St w0 G0 (Ky A.2.1 C :: ChL t3 t4 t5 v sp nm I) W') ?_ ?_
    · rintro vs W _ ⟨A, rfl, g1, g2, g3, g4, h⟩
      refine app5 ⟨rfl, rfl, rfl, rfl, ?_⟩
      exact hnext A W (by omega) ⟨g2, g3, g4, h⟩
    refine h.load (x_nd (u := .int .i64 t.kind) (ht.below h.low) ga (by decide) (fun va => rfl) (w_neq (ifd (fun hk => ?_) fun hk => ?_)))
    · rw [if_pos hk] at q3
      refine a_add64 (by omega) (by omega) ⟨(i + 1, q, f), rfl, Nat.lt_succ_self i, by simp only; omega, q2, q3, h⟩
    rw [if_neg hk] at q3
    obtain ⟨e1, e2, e3⟩ := endX_at ga (by omega)
    refine h.load (inner_spec ht hf.n hf.a hf.x h fun W h => a_ext0 (a_ext1 ?_))
    rw [e1]
    refine jni (fun vs W' => ∃ q', vs = [yv, .pointer (some ⟨t3, 0, none⟩), .pointer (some ⟨t4, 0, none⟩), .pointer (some ⟨t5, 0, none⟩), nV .i64 (endX ts i)] ∧ q' ≤ (kids sp nm ts).length ∧ (kids sp nm ts).drop q' = kidsGo sp nm ts f (endX ts i) ∧ St w0 G0 (Ky q' C :: ChL t3 t4 t5 v sp nm I) W') ?_ ?_
    · rintro vs W _ ⟨q', rfl, g1, g2, h⟩
      exact app5 ⟨(endX ts i, q', f), rfl, e2, by simp only; omega, g1, g2, h⟩
    refine ⟨St w0 G0 (ChL t3 t4 t5 v sp nm []), h.drew.to, ?_⟩
    replace h := h.drew
    have hS3 : ∀ w, St w0 G0 (ChL t3 t4 t5 v sp nm []) w → Rec w t3 58 [v] := fun w h => h.rc
    have hS4 : ∀ w, St w0 G0 (ChL t3 t4 t5 v sp nm []) w → Rec w t4 9 [strV sp] := fun w h => h.rc
    have hS5 : ∀ w, St w0 G0 (ChL t3 t4 t5 v sp nm []) w → Rec w t5 9 [strV nm] := fun w h => h.rc
    have hSl : ∀ w, St w0 G0 (ChL t3 t4 t5 v sp nm []) w → Below w0.heap.size w0 w := fun w h => h.low
    have other : ¬ (t.space = sp ∧ t.name = nm) → ∃ q', [yv, .pointer (some ⟨t3, 0, none⟩), .pointer (some ⟨t4, 0, none⟩), .pointer (some ⟨t5, 0, none⟩), nV .i64 (endX ts i)] = [yv, .pointer (some ⟨t3, 0, none⟩), .pointer (some ⟨t4, 0, none⟩), .pointer (some ⟨t5, 0, none⟩), nV .i64 (endX ts i)] ∧ q' ≤ (kids sp nm ts).length ∧ (kids sp nm ts).drop q' = kidsGo sp nm ts f (endX ts i) ∧ St w0 G0 (Ky q' C :: ChL t3 t4 t5 v sp nm I) W.drew := fun hne => by
      rw [if_neg hne] at q3
      exact ⟨q, rfl, q2, q3, h⟩
    refine s_ld (t := 58) (cs := [v]) hS3 rfl ?_
    refine x_nds (u := strV t.space) ht hSl ga (by decide) (fun va => rfl) ?_
    refine s_ld (t := 9) (cs := [strV sp]) hS4 rfl (s_eqlL (ifd (fun h1 => ?_) fun h1 => other fun hh => h1 hh.1))
    refine s_ld (t := 58) (cs := [v]) hS3 rfl ?_
    refine x_nds (u := strV t.name) ht hSl ga (by decide) (fun va => rfl) ?_
    refine s_ld (t := 9) (cs := [strV nm]) hS5 rfl (s_eqlL (ifd (fun h2 => ?_) fun h2 => other fun hh => h2 hh.2))
    rw [if_pos ⟨h1, h2⟩] at q3
    have hq : (kids sp nm ts)[q]? = some (i, endX ts i) := by
      have := congrArg (fun l => l[0]?) q3
      simpa [List.getElem?_drop] using this
    have hql : q < (kids sp nm ts).length := (List.getElem?_eq_some_iff.1 hq).1
    have q4 : (kids sp nm ts).drop (q + 1) = kidsGo sp nm ts f (endX ts i) := by
      rw [← List.drop_drop, q3]; rfl
    refine s_ld (t := 58) (cs := [v]) hS3 rfl ?_
    refine x_subV (ht.below h.low) (by omega) e3 ?_
    have hx : (kidsV v sp nm ts)[q]? = some [subV v (i, endX ts i)] := by unfold kidsV; rw [List.getElem?_map, hq]; rfl
    refine hY q _ hx (ChL t3 t4 t5 v sp nm I) _ _ h (fun W h => ⟨h.to, ?_⟩) fun W h => ⟨h.to, ?_⟩
    · exact a_not (iff' ⟨q + 1, rfl, hql, q4, h⟩)
    · exact a_not (ift (hst (q + 1) W (by rw [hlen]; exact hql) (shut h)))
  · have hq : q = (kids sp nm ts).length := by
      have e : kidsGo sp nm ts f i = [] := by
        cases f with
        | zero => rfl
        | succ f => unfold kidsGo; rw [List.getElem?_eq_none (by omega)]
      rw [e] at q3
      have := List.drop_eq_nil_iff.1 q3
      omega
    subst hq
    refine hd W ?_
    rw [hlen]
    exact shut h
theorem children_spec (ht : Toks w0 v ts) (h : St w0 G0 l W) (k : ∀ t3 t4 t5 W', St w0 G0 (Ky (chFn t3 t4 t5) (ChA t3 t4 t5 v sp nm) :: l) W' → RR (chFn t3 t4 t5) W') : CallF Tryz.prog 48 #[v, strV sp, strV nm] W RR := by
  refine sh48_calls ?_
  unfold sh48
  obtain ⟨ov, ho, hs, hat⟩ := ht
  have oc : Cel1 v := Cel1.of_sl hs
  refine h.boxV fun t3 W h => h.boxV fun t4 W h => h.boxV fun t5 W h => v_func ?_
  have h' : St w0 G0 (ChL t3 t4 t5 v sp nm l) W := h.to
  exact k t3 t4 t5 W (St.shutA (L := ChL t3 t4 t5 v sp nm []) trivial h')
end
end Go.Proofs.YtlflpbflpcmckaaGreatDoor
namespace Go.Ez
open Go Go.Proofs
theorem attrX_cons {nm : Txt} {a : XAt} {l : List XAt} : attrX nm (a :: l) = if a.space = [] ∧ a.name = nm then some a.value else attrX nm l := rfl
theorem inGo_tx {M : Nat} : ∀ {l : List XTk} {d : Int} {b : Txt}, (∀ t ∈ l, t.text.length ≤ M) → (inGo l d b).1.length ≤ b.length + l.length * M
  | [], _, _, _ => by simp [inGo]
  | t :: l, d, b, h => by
    have h1 : (b ++ txOf t).length ≤ b.length + M := by
      rw [List.length_append]
      have : (txOf t).length ≤ M := by
        unfold txOf
        split
        · exact h t (List.mem_cons_self ..)
        · exact Nat.zero_le _
      omega
    unfold inGo
    rw [List.length_cons, Nat.succ_mul]
    split
    · simp only; omega
    · have := inGo_tx (l := l) (d := d + kd t.kind) (b := b ++ txOf t) fun u hu => h u (List.mem_cons_of_mem _ hu)
      simp only; omega
theorem innerX_tx {M : Nat} {ts : List XTk} {i : Int} (h : ∀ t ∈ ts, t.text.length ≤ M) : (innerX ts i).1.length ≤ ts.length * M := by
  unfold innerX
  split
  · exact Nat.zero_le _
  · cases ts[i.toNat]? with
    | none => exact Nat.zero_le _
    | some t =>
      simp only
      split
      · exact Nat.zero_le _
      · refine Nat.le_trans (inGo_tx (M := M) fun t ht => h t (List.mem_of_mem_drop ht)) ?_
        rw [List.length_nil, Nat.zero_add, List.length_drop]
        exact Nat.mul_le_mul_right _ (by omega)
end Go.Ez
namespace Go.Proofs.YtlflpbflpcmckaaGreatDoor
open Go Go.Ez Go.RowKit Go.Lib
set_option linter.unusedSimpArgs false
set_option linter.unusedVariables false
section
variable {w0 W W' : World} {G : Nat → Prop} {l R R1 R2 : List As} {RR : Value → World → Prop} {s sp nm : Txt} {v : Value} {ts : List XTk} {t : XTk} {i n b : Nat} {K : Value → Prop} {k0 : IntKind}
theorem Few.child (h : Few ts) : Few ((childX sp nm ts).getD []) := by
  unfold childX subs
  cases kids sp nm ts with
  | nil => exact .nil
  | cons p ps => exact h.sub
theorem Few.tx (h : Few ts) {i : Int} : (innerX ts i).1.length ≤ 90000000000 := Nat.le_trans (innerX_tx h.x) (by have := h.n; omega)
theorem text_spec (ht : Toks w0 v ts) (hf : Few ts) (h : St w0 G0 l W) (k : ∀ W', St w0 G0 l W' → RR (strV (textX ts)) W') : CallF Tryz.prog 84 #[v] W RR := by
  refine sh84_calls ?_
  unfold sh84
  refine inner_spec (at_ := 0) ht hf.n hf.a hf.x h fun W h => a_ext0 (a_ext1 ?_)
  refine ftrim_spec h (by have := hf.tx (i := 0); omega) k
abbrev CdC (t6 t7 : Nat) (i : Nat) : As := As.all (i = 0) [Ky t6 (Ob (.cells [(.slice none 0 0 : Value)].toArray 58 (0, 0))), Ky t7 (Ob (.cells [(.bool false : Value)].toArray 4 (0, 0)))]
abbrev CdD (t6 t7 : Nat) (xs : List (List Value)) (c : Code) (_ : Nat) : As := As.ex fun v' : Value => As.all (c = .ret ∧ xs[0]? = some [v']) [Ky t6 (Ob (.cells [v'].toArray 58 (0, 0))), Ky t7 (Ob (.cells [(.bool true : Value)].toArray 4 (0, 0)))]
theorem kidsV_get {i : Nat} {x : List Value} (h : (kidsV v sp nm ts)[i]? = some x) : ∃ p, (kids sp nm ts)[i]? = some p ∧ x = [subV v p] := by
  unfold kidsV at h
  rw [List.getElem?_map] at h
  cases hk : (kids sp nm ts)[i]? with
  | none => rw [hk] at h; cases h
  | some p => rw [hk] at h; exact ⟨p, rfl, (Option.some.inj h).symm⟩
theorem kidsV_one : ∀ x ∈ kidsV v sp nm ts, x.length = 1 := fun x hx => by
  obtain ⟨i, hi⟩ := List.getElem?_of_mem hx
  obtain ⟨p, _, rfl⟩ := kidsV_get hi
  rfl
theorem kids_ok {i : Nat} {p : Nat × Nat} (h : (kids sp nm ts)[i]? = some p) : p.1 < p.2 ∧ p.2 ≤ ts.length := (kidsGo_ok (List.mem_of_getElem? h)).2
theorem child_spec (ht : Toks w0 v ts) (hf : Few ts) (h : St w0 G0 l W) (k : ∀ v' W', St w0 G0 l W' → Toks w0 v' ((childX sp nm ts).getD []) → RR (.tuple #[v', .bool (childX sp nm ts).isSome]) W') : CallF Tryz.prog 46 #[v, strV sp, strV nm] W RR := by
  refine sh46_calls ?_
  unfold sh46
  refine h.alloc fun t6 W h => h.alloc fun t7 W h => ?_
  refine children_spec ht h fun t3 t4 t5 W h => ?_
  have hI := children_itr (t3 := t3) (t4 := t4) (t5 := t5) (sp := sp) (nm := nm) ht hf
  refine rngI (C := CdC t6 t7) (Dd := CdD t6 t7 (kidsV v sp nm ts)) hI kidsV_one (l := l) ?_ ?_ ?_ ?_
  · exact St.shut2 rfl h.to
  · intro i x hxi ll rec I W kn ks h hkn hks
    obtain ⟨p, hp, rfl⟩ := kidsV_get hxi
    refine app1 ?_
    refine ⟨h.ob (b := ll), ?_⟩
    replace h := h.putO (b := ll) (o := .loop (rec .ready none)) (.loop (rec .busy none))
    replace h : St w0 G0 (Ky i (CdC t6 t7) :: Ky ll (Ob (.loop (rec .busy none))) :: I) _ := h.to
    obtain ⟨hi0, h2⟩ := St.open2 h
    clear h
    subst hi0
    have h := h2
    clear h2
    refine app3 ?_
    have oc : Cel1 (subV v p) := by
      have := kids_ok hp
      obtain ⟨cs, hcs⟩ := tk_len (ht.sub (p := p) (by omega) this.2)
      exact Cel1.of_sl hcs
    refine h.store fun W h => h.store fun W h => ?_
    exact hks .ret W (St.swap (St.shutE (subV v p) (St.shut2 ⟨rfl, hxi⟩ h.to)))
  · intro D W h
    replace h : St w0 G0 (Ky (kidsV v sp nm ts).length (CdC t6 t7) :: Ky D (Ob (.deferred (some []))) :: Ky (chFn t3 t4 t5) (ChA t3 t4 t5 v sp nm) :: l) W := h.swap
    obtain ⟨h0, h⟩ := St.open2 h
    have e : childX sp nm ts = none := by
      unfold kidsV at h0
      rw [List.length_map] at h0
      unfold childX subs
      rw [List.eq_nil_of_length_eq_zero h0]; rfl
    rw [e] at k
    refine h.store fun W h => h.store fun W h => ?_
    refine ⟨h.ob (b := D), ?_⟩
    replace h := h.putO (b := D) (o := .deferred (some [])) (.deferred none)
    refine h.load (h.load ?_)
    exact k _ _ h.to (.nil w0)
  · intro D c i W hi h
    replace h : St w0 G0 (Ky i (CdD t6 t7 (kidsV v sp nm ts) c) :: Ky D (Ob (.deferred (some []))) :: Ky (chFn t3 t4 t5) (ChA t3 t4 t5 v sp nm) :: l) W := h.swap
    obtain ⟨v', h⟩ := St.openE h
    obtain ⟨⟨hcc, hx⟩, h2⟩ := St.open2 h
    clear h
    subst hcc
    have h := h2
    clear h2
    obtain ⟨p, hp, hv'⟩ := kidsV_get hx
    obtain rfl : v' = subV v p := by simpa using hv'
    have hpk := kids_ok hp
    have e : childX sp nm ts = some (subN ts p) := by
      unfold childX subs
      rw [List.head?_map, List.head?_eq_getElem?, hp]; rfl
    rw [e] at k
    refine ⟨h.ob (b := D), ?_⟩
    replace h := h.putO (b := D) (o := .deferred (some [])) (.deferred none)
    refine h.load (h.load ?_)
    exact k _ _ h.to (ht.sub (by omega) hpk.2)
theorem inT_spec (ht : Toks w0 v ts) (hf : Few ts) (h : St w0 G0 l W) (k : ∀ W', St w0 G0 l W' → RR (strV (inT sp nm ts)) W') : CallF Tryz.prog 47 #[v, strV sp, strV nm] W RR := by
  refine sh47_calls ?_
  unfold sh47
  refine child_spec ht hf h fun v' W h t' => a_ext0 (a_ext1 ?_)
  exact text_spec t' hf.child h k
theorem fwhen_spec (h : St w0 G l W) (hs : s.length ≤ 9223372036854775807) (k : ∀ W', St w0 G l W' → RR (.int .i64 (whenX s)) W') : CallF Tryz.prog 88 #[strV s] W RR := by
  refine sh88_calls ?_
  unfold sh88
  refine any_spec h hs fun W h => a_ext0 (a_ext1 ?_)
  unfold whenX at k
  refine w_neq (ifd (fun hc => ?_) fun hc => ?_)
  · rw [if_pos hc] at k; exact k W h
  · rw [if_neg hc] at k; exact k W h
abbrev AtB (a : XAt) : Nat → As := Ob (.cells (atc a).toArray 158 (0, 0))
theorem fattr_spec (ht : Toks w0 v ts) (hf : Few ts) (h0 : 0 < ts.length) (h : St w0 G0 l W) (k : ∀ W', St w0 G0 l W' → RR (.tuple #[strV ((attrX nm (atts ts)).getD []), .bool (attrX nm (atts ts)).isSome]) W') : CallF Tryz.prog 116 #[v, strV nm] W RR := by
  refine sh116_calls ?_
  unfold sh116
  obtain ⟨t, tl, rfl⟩ : ∃ t tl, ts = t :: tl := by
    cases ts with
    | nil => cases h0
    | cons t tl => exact ⟨t, tl, rfl⟩
  have hat := hf.a t (List.mem_cons_self ..)
  obtain ⟨ov, ho, hs, hats⟩ := ht
  obtain ⟨va, hva⟩ := tk_ov ho (i := 0) (tk := t) rfl
  have hil := (List.getElem?_eq_some_iff.1 hva).1
  obtain ⟨o1, hs3⟩ := hats _ (List.mem_of_getElem? hva)
  replace hs3 : Sl w0 3 va t.attrs.length (rcells atc t.attrs) := hs3
  refine x_fld (i := 0) (hs.below h.low) hil (by decide) (by rw [rc_get tcell_len hva (by decide)]; rfl) ?_
  refine x_lenS hs3 ?_
  replace k : ∀ W', St w0 G0 l W' → RR (.tuple #[strV ((attrX nm t.attrs).getD []), .bool (attrX nm t.attrs).isSome]) W' := k
  generalize t.attrs = L at *
  refine lpx (α := Nat) (fun i => [nV .i64 i]) (fun i W => i ≤ L.length ∧ attrX nm L = attrX nm (L.drop i) ∧ St w0 G0 l W) (fun i => L.length - i) 0 (fun _ => rfl) rfl ⟨Nat.zero_le _, rfl, h⟩ ?_
  clear h
  rintro next i W hnext ⟨q1, q2, h⟩
  refine app1 ?_
  refine a_lss (ifd (fun hc => ?_) fun hc => ?_)
  · have hi : i < L.length := by omega
    have ga : L[i]? = some L[i] := List.getElem?_eq_getElem hi
    have hdr : L.drop i = L[i] :: L.drop (i + 1) := List.drop_eq_getElem_cons hi
    generalize L[i] = a at ga hdr
    rw [hdr, attrX_cons] at q2
    refine x_rcl atc_len (hs3.below h.low) rfl ga ?_
    refine h.allocS fun b W h => ?_
    refine h.storeS (cs' := atc a) fun W h => ?_
    replace h : St w0 G0 (Ky b (AtB a) :: l) W := h
    refine jni (fun vs W' => vs = [strV nm, va, nV .i64 L.length, nV .i64 i] ∧ attrX nm L = attrX nm (L.drop (i + 1)) ∧ St w0 G0 (Ky b (AtB a) :: l) W') ?_ ?_
    · rintro vs W _ ⟨rfl, e, h⟩
      refine app4 (a_add64 (by omega) (by omega) ⟨rfl, rfl, rfl, ?_⟩)
      rw [show ((i : Int) + 1) = ((i + 1 : Nat) : Int) by push_cast; rfl]
      exact hnext (i + 1) W (by omega) ⟨by omega, e, h.to⟩
    refine a_fld0 (h.load (w_eqlL (b := []) (ifd (fun h1 => ?_) fun h1 => ?_)))
    · refine a_fld0 (h.load (w_eqlL (ifd (fun h2 => ?_) fun h2 => ?_)))
      · rw [if_pos ⟨h1, h2⟩] at q2
        rw [q2] at k
        refine a_fld0 (h.load ?_)
        exact k W h.to
      · rw [if_neg fun hh => h2 hh.2] at q2
        exact ⟨rfl, q2, h⟩
    · rw [if_neg fun hh => h1 hh.1] at q2
      exact ⟨rfl, q2, h⟩
  · rw [List.drop_of_length_le (by omega)] at q2
    rw [q2] at k
    exact k W h
theorem Few.inT (h : Few ts) : (inT sp nm ts).length ≤ 90000000000 := Nat.le_trans (trimX_le _) h.child.tx
abbrev entC (e : Ent) : List Value := [.int .i64 e.num, strV e.guid, strV e.title, strV e.link, .int .i64 e.when_]
abbrev EnB (e : Ent) : Nat → As := Ob (.cells (entC e).toArray 34 (0, 0))
theorem item_spec (ht : Toks w0 v ts) (hf : Few ts) (h : St w0 G0 l W) (k : ∀ W', St w0 G0 l W' → RR (.agg (entC (itemX ts)).toArray) W') : CallF Tryz.prog 50 #[v] W RR := by
  refine sh50_calls ?_
  unfold sh50
  refine h.allocS fun t2 W h => ?_
  refine inT_spec (sp := []) (nm := tGuid) ht hf h fun W h => ?_
  refine inT_spec (sp := []) (nm := tTitle) ht hf h fun W h => ?_
  refine inT_spec (sp := []) (nm := tLink) ht hf h fun W h => ?_
  refine inT_spec (sp := []) (nm := tPub) ht hf h fun W h => ?_
  refine fwhen_spec h (by have := hf.inT (sp := []) (nm := tPub); omega) fun W h => ?_
  refine x_bld (cells := (entC (itemX ts)).toArray) (by kernel_rfl) ?_
  refine h.storeS (cs' := entC (itemX ts)) fun W h => ?_
  refine h.loadS ?_
  exact k W h.to
end
end Go.Proofs.YtlflpbflpcmckaaGreatDoor
namespace Go.Proofs.YtlflpbflpcmckaaGreatDoor
open Go Go.Ez Go.RowKit Go.Lib
set_option linter.unusedSimpArgs false
set_option linter.unusedVariables false
theorem attrX_mem {nm h : Txt} : ∀ {l : List XAt}, attrX nm l = some h → ∃ a ∈ l, a.value = h
  | [], e => by cases e
  | a :: l, e => by
    rw [attrX_cons] at e
    split at e
    · exact ⟨a, List.mem_cons_self .., Option.some.inj e⟩
    · obtain ⟨b, hb, hv⟩ := attrX_mem e
      exact ⟨b, List.mem_cons_of_mem _ hb, hv⟩
theorem linkGo_cons (c : List XTk) (l : List (List XTk)) : linkGo (c :: l) = match linkOk c with | some h => trimX h | none => linkGo l := rfl
section
variable {w0 W W' : World} {G : Nat → Prop} {l R R1 R2 : List As} {RR : Value → World → Prop} {s sp nm : Txt} {v : Value} {ts : List XTk} {t : XTk} {i n b : Nat} {K : Value → Prop} {k0 : IntKind}
theorem Few.av (h : Few ts) : ((attrX nm (atts ts)).getD []).length ≤ 1000000000 := by
  cases hx : attrX nm (atts ts) with
  | none => exact Nat.zero_le _
  | some y =>
    obtain ⟨a, ha, rfl⟩ := attrX_mem hx
    cases ts with
    | nil => cases ha
    | cons t tl => exact h.v t (List.mem_cons_self ..) a ha
abbrev LkC (t2 : Nat) (L : List (List XTk)) (i : Nat) : As := As.all (linkGo L = linkGo (L.drop i)) [Ky t2 (Ob (.cells [strV []].toArray 9 (0, 0)))]
abbrev LkD (t2 : Nat) (L : List (List XTk)) (c : Code) (_ : Nat) : As := As.all (c = .ret) [Ky t2 (Ob (.cells [strV (linkGo L)].toArray 9 (0, 0)))]
theorem link_spec (ht : Toks w0 v ts) (hf : Few ts) (h : St w0 G0 l W) (k : ∀ W', St w0 G0 l W' → RR (strV (linkGo (subs tAtom tLink ts))) W') : CallF Tryz.prog 89 #[v] W RR := by
  refine sh89_calls ?_
  unfold sh89
  refine h.alloc fun t2 W h => ?_
  refine children_spec (sp := tAtom) (nm := tLink) ht h fun t3 t4 t5 W h => ?_
  have hI := children_itr (t3 := t3) (t4 := t4) (t5 := t5) (sp := tAtom) (nm := tLink) ht hf
  have hL : (subs tAtom tLink ts).length = (kidsV v tAtom tLink ts).length := by unfold subs kidsV; simp
  refine rngI (C := LkC t2 (subs tAtom tLink ts)) (Dd := LkD t2 (subs tAtom tLink ts)) hI kidsV_one (l := l) ?_ ?_ ?_ ?_
  · exact St.shut1 rfl h.to
  · intro i x hxi ll rec I W kn ks h hkn hks
    obtain ⟨p, hp, rfl⟩ := kidsV_get hxi
    have hpk := kids_ok hp
    refine app1 ?_
    refine ⟨h.ob (b := ll), ?_⟩
    replace h := h.putO (b := ll) (o := .loop (rec .ready none)) (.loop (rec .busy none))
    replace h : St w0 G0 (Ky i (LkC t2 (subs tAtom tLink ts)) :: Ky ll (Ob (.loop (rec .busy none))) :: I) _ := h.to
    obtain ⟨hi0, h2⟩ := St.open1 h
    clear h
    have h := h2
    clear h2
    refine app2 ?_
    have tp := ht.sub (p := p) (by omega) hpk.2
    have hlp : 0 < (subN ts p).length := by unfold subN; rw [List.length_take, List.length_drop]; omega
    have hg : (subs tAtom tLink ts)[i]? = some (subN ts p) := by unfold subs; rw [List.getElem?_map, hp]; rfl
    have hil := (List.getElem?_eq_some_iff.1 hg).1
    have hdr : (subs tAtom tLink ts).drop i = subN ts p :: (subs tAtom tLink ts).drop (i + 1) := by
      rw [List.drop_eq_getElem_cons hil]
      congr 1
      exact (List.getElem?_eq_some_iff.1 hg).2
    rw [hdr, linkGo_cons] at hi0
    have hfp : Few (subN ts p) := hf.sub
    have hav := hfp.av (nm := tHref)
    generalize subN ts p = c at *
    refine fattr_spec (nm := tHref) tp hfp hlp h fun W h => a_ext0 (a_ext1 ?_)
    refine fattr_spec (nm := tRel) tp hfp hlp h fun W h => a_ext0 (a_ext1 ?_)
    unfold linkOk at hi0
    refine jni (fun vs W' => linkGo (subs tAtom tLink ts) = linkGo ((subs tAtom tLink ts).drop (i + 1)) ∧ St w0 G0 (Ky t2 (Ob (.cells [strV []].toArray 9 (0, 0))) :: Ky ll (Ob (.loop (rec .busy none))) :: I) W') ?_ ?_
    · rintro vs W hvs ⟨e, h⟩
      obtain rfl := List.eq_nil_of_length_eq_zero hvs
      exact app0 (hkn W (St.swap (St.shut1 e h.to)))
    have stop : ∀ y, linkGo (subs tAtom tLink ts) = trimX y → y.length ≤ 1000000000 → CallF Tryz.prog 15 #[strV y] W fun t31 w => RunU Tryz.prog (Instr.storeAt 9 (.pointer (some ⟨t2, 0, none⟩)) t31) w fun w => ks .ret w := fun y e hy => by
      refine ftrim_spec h (by omega) fun W h => h.store fun W h => ?_
      rw [← e] at h
      exact hks .ret W (St.swap (St.shut1 rfl h.to))
    cases hx : attrX tHref (atts c) with
    | none =>
      rw [hx] at hi0
      exact iff' ⟨hi0, h.to⟩
    | some y =>
      rw [hx] at hi0 hav
      refine ift ?_
      cases hr : attrX tRel (atts c) with
      | none =>
        rw [hr] at hi0
        exact a_not (ift (stop y hi0 hav))
      | some r =>
        rw [hr] at hi0
        refine a_not (iff' (w_eqlL (ifd (fun he => ?_) fun he => ?_)))
        · dsimp only at hi0
          rw [if_pos (show r = tAlt from he)] at hi0
          exact stop y hi0 hav
        · dsimp only at hi0
          rw [if_neg (show ¬ r = tAlt from he)] at hi0
          exact ⟨hi0, h.to⟩
  · intro D W h
    replace h : St w0 G0 (Ky (kidsV v tAtom tLink ts).length (LkC t2 (subs tAtom tLink ts)) :: Ky D (Ob (.deferred (some []))) :: Ky (chFn t3 t4 t5) (ChA t3 t4 t5 v tAtom tLink) :: l) W := h.swap
    obtain ⟨h0, h⟩ := St.open1 h
    rw [← hL, List.drop_length] at h0
    rw [h0] at k
    refine h.store fun W h => ?_
    refine ⟨h.ob (b := D), ?_⟩
    replace h := h.putO (b := D) (o := .deferred (some [])) (.deferred none)
    refine h.load ?_
    exact k _ h.to
  · intro D c i W hi h
    replace h : St w0 G0 (Ky i (LkD t2 (subs tAtom tLink ts) c) :: Ky D (Ob (.deferred (some []))) :: Ky (chFn t3 t4 t5) (ChA t3 t4 t5 v tAtom tLink) :: l) W := h.swap
    obtain ⟨hcc, h2⟩ := St.open1 h
    clear h
    subst hcc
    have h := h2
    clear h2
    refine ⟨h.ob (b := D), ?_⟩
    replace h := h.putO (b := D) (o := .deferred (some [])) (.deferred none)
    refine h.load ?_
    exact k _ h.to
theorem entry_spec (ht : Toks w0 v ts) (hf : Few ts) (h : St w0 G0 l W) (k : ∀ W', St w0 G0 l W' → RR (.agg (entC (entryX ts)).toArray) W') : CallF Tryz.prog 51 #[v] W RR := by
  refine sh51_calls ?_
  unfold sh51
  refine h.allocS fun t2 W h => ?_
  refine child_spec (sp := tAtom) (nm := tUpd) ht hf h fun v1 W h t1 => a_ext0 (a_ext1 ?_)
  refine jni (fun vs W' => ∃ v2, vs = [v, .pointer (some ⟨t2, 0, none⟩), v2] ∧ Toks w0 v2 (dateN ts) ∧ St w0 G0 (Ky t2 (EnB ⟨0, [], [], [], 0⟩) :: l) W') ?_ ?_
  · rintro vs W _ ⟨v2, rfl, t2', h⟩
    refine app3 ?_
    have hfd : Few (dateN ts) := by
      unfold dateN
      have h1 := hf.child (sp := tAtom) (nm := tUpd)
      cases hc : childX tAtom tUpd ts with
      | none => exact hf.child
      | some c => rw [hc] at h1; exact h1
    refine inT_spec (sp := tAtom) (nm := tId) ht hf h fun W h => ?_
    refine inT_spec (sp := tAtom) (nm := tTitle) ht hf h fun W h => ?_
    refine link_spec ht hf h fun W h => ?_
    refine text_spec t2' hfd h fun W h => ?_
    refine fwhen_spec h (by have := Nat.le_trans (trimX_le (innerX (dateN ts) 0).1) hfd.tx; unfold textX; omega) fun W h => ?_
    refine x_bld (cells := (entC (entryX ts)).toArray) (by kernel_rfl) ?_
    refine h.storeS (cs' := entC (entryX ts)) fun W h => ?_
    refine h.loadS ?_
    exact k W h.to
  · cases hc : childX tAtom tUpd ts with
    | none =>
      refine a_not (ift ?_)
      refine child_spec (sp := tAtom) (nm := tPubl) ht hf h fun v2 W h t2' => a_ext0 (a_ext1 ?_)
      exact ⟨v2, rfl, by unfold dateN; rw [hc]; exact t2', h.to⟩
    | some c =>
      rw [hc] at t1
      refine a_not (iff' ?_)
      exact ⟨v1, rfl, by unfold dateN; rw [hc]; exact t1, h.to⟩
end
end Go.Proofs.YtlflpbflpcmckaaGreatDoor
namespace Go.Ez
open Go Go.Proofs Go.RowKit
section
variable {w0 W W' : World} {G : Nat → Prop} {l l' : List As}
/-- what a call made for itself, laid beside what was -/
theorem St.frame (h : St w0 G l W) (h' : St W G0 l' W') : St w0 G (l' ++ l) W' := by
  have hb := h'.low
  have h2 := h.ext hb
  obtain ⟨F, hF, hG⟩ := h.own
  obtain ⟨F', hF', hG'⟩ := h'.own
  refine { h2 with own := ⟨fun b => F' b ∨ F b, sepL_append.2 ⟨F', F, hF', sepL_loc hF fun b h => hb.block b (sepL_lt hF b h), fun b h1 h2 => ?_, fun _ => Iff.rfl⟩, fun b hb => ?_⟩ }
  · rcases hG' b h1 with h3 | h3
    · exact h3.elim
    · have := sepL_lt hF b h2; omega
  · rcases hb with h1 | h1
    · rcases hG' b h1 with h3 | h3
      · exact h3.elim
      · exact .inr (Nat.le_trans h.size h3)
    · exact hG b h1
theorem St.frame1 {A : As} (h : St w0 G l W) (h' : St W G0 [A] W') : St w0 G (A :: l) W' := h.frame h'
end
theorem addX_len (l : List Ent) (e : Ent) : (addX l e).length ≤ l.length + 1 := by
  unfold addX
  split
  · omega
  · simp
theorem foldX_len {α : Type} (g : α → Ent) : ∀ (L : List α) (l : List Ent), (L.foldl (fun l c => addX l (g c)) l).length ≤ l.length + L.length
  | [], l => Nat.le_refl _
  | c :: L, l => by
    have := foldX_len g L (addX l (g c))
    have h1 := addX_len l (g c)
    rw [List.foldl_cons, List.length_cons]
    omega
end Go.Ez
namespace Go.Proofs.YtlflpbflpcmckaaGreatDoor
open Go Go.Ez Go.RowKit Go.Lib
set_option linter.unusedSimpArgs false
set_option linter.unusedVariables false
theorem w_max3 {P : Program} {w : World} {K : Value → Prop} {ts : Array TypeId} {t : TypeId} {k k' k'' : IntKind} {a b c : Int} (h : K (.int k (max (max a b) c))) : RunW P (Builtin.max_ ts t #[.int k a, .int k' b, .int k'' c]) w K :=
  .of (run_max_int3 (P := P) (w := w) ts t k k' k'' a b c) (by
    have : (if c > (if b > a then b else a) then c else (if b > a then b else a)) = max (max a b) c := by omega
    rw [this]; exact h)
theorem entC_len (e : Ent) : (entC e).length = 5 := rfl
theorem entC_one (e : Ent) : ∀ c ∈ entC e, c.oneCell' = true := by
  intro c hc
  simp only [List.mem_cons, List.not_mem_nil, or_false] at hc
  rcases hc with rfl | rfl | rfl | rfl | rfl <;> rfl
/-- v tells entries -/
def Ens (W : World) (v : Value) (L : List Ent) : Prop := Sl W 5 v L.length (rcells entC L)
theorem Ens.below {v : Value} {L : List Ent} {W W' : World} (h : Ens W v L) (hb : Below W.heap.size W W') : Ens W' v L := Sl.below h hb
abbrev FdB (b : Nat) (t : Txt) (ve : Value) : As := Ky b (Ob (.cells [strV t, ve].toArray 27 (0, 0)))
abbrev EnS (L : List Ent) : Value → As := Ow 34 5 L.length (rcells entC L)
/-- a feed under way -/
def FdO (t : Txt) (L : List Ent) (b : Nat) : As := As.ex fun ve : Value => As.all (Cel1 ve) [FdB b t ve, Ky ve (EnS L)]
section
variable {w0 W W' : World} {G : Nat → Prop} {l R R1 R2 : List As} {RR : Value → World → Prop} {s sp nm tt : Txt} {v ve f : Value} {ts : List XTk} {t : XTk} {i n b : Nat} {K : Value → Prop} {k0 : IntKind} {L : List Ent} {e : Ent} {p : Ent → Bool}
theorem openF [i : Has l b (FdO tt L) R] (h : St w0 G l W) : ∃ ve, Cel1 ve ∧ St w0 G (FdB b tt ve :: Ky ve (EnS L) :: R) W := by
  obtain ⟨ve, h⟩ := St.openE (show St w0 G (As.ex (fun ve : Value => As.all (Cel1 ve) [FdB b tt ve, Ky ve (EnS L)]) :: R) W from h.find (k := b) (X := FdO tt L))
  obtain ⟨o, h⟩ := St.open2 h
  exact ⟨ve, o, h⟩
theorem shutF (o : Cel1 ve) (h : St w0 G (FdB b tt ve :: Ky ve (EnS L) :: l) W) : St w0 G (Ky b (FdO tt L) :: l) W := St.shutE ve (St.shut2 o h)
theorem idxEn_spec (hs : ∀ W, St w0 G0 l W → Sl W 5 v L.length (rcells entC L)) (hL : L.length ≤ 1000000) (hp : ∀ x ∈ L, ∀ (W : World) (K : Value → World → Prop), St w0 G0 l W → (∀ W', St w0 G0 l W' → K (.bool (p x)) W') → CallV Tryz.prog f #[.agg (entC x).toArray] W K)
    (h : St w0 G0 l W) (k : ∀ W' (n : Int), (0 ≤ n ↔ L.any p = true) → St w0 G0 l W' → RR (.int .i64 n) W') : CallF Tryz.prog 90 #[v, f] W RR := by
  refine sh90_calls ?_
  unfold sh90
  refine x_lenS (hs W h) ?_
  refine lpx (α := Nat) (fun i => [nV .i64 i]) (fun i W => i ≤ L.length ∧ L.any p = (L.drop i).any p ∧ St w0 G0 l W) (fun i => L.length - i) 0 (fun _ => rfl) rfl ⟨Nat.zero_le _, rfl, h⟩ ?_
  clear h
  rintro next i W hnext ⟨q1, q2, h⟩
  refine app1 ?_
  refine a_lss (ifd (fun hc => ?_) fun hc => ?_)
  · have hi : i < L.length := by omega
    have ga : L[i]? = some L[i] := List.getElem?_eq_getElem hi
    have hdr : L.drop i = L[i] :: L.drop (i + 1) := List.drop_eq_getElem_cons hi
    have hm := List.getElem_mem hi
    generalize L[i] = a at ga hdr hm
    rw [hdr, List.any_cons] at q2
    refine x_rcl entC_len (hs W h) rfl ga ?_
    refine hp a hm W _ h fun W h => ifb (fun ht => ?_) fun ht => ?_
    · exact k W i (by rw [q2, ht]; simp) h
    · rw [ht, Bool.false_or] at q2
      refine a_add64 (by omega) (by omega) ⟨rfl, rfl, rfl, ?_⟩
      rw [show ((i : Int) + 1) = ((i + 1 : Nat) : Int) by push_cast; rfl]
      exact hnext (i + 1) W (by omega) ⟨by omega, q2, h⟩
  · rw [List.drop_of_length_le (by omega)] at q2
    exact k W (-1) (by rw [q2]; simp) h
theorem hasEn_spec (hs : ∀ W, St w0 G0 l W → Sl W 5 v L.length (rcells entC L)) (hL : L.length ≤ 1000000) (hp : ∀ x ∈ L, ∀ (W : World) (K : Value → World → Prop), St w0 G0 l W → (∀ W', St w0 G0 l W' → K (.bool (p x)) W') → CallV Tryz.prog f #[.agg (entC x).toArray] W K)
    (h : St w0 G0 l W) (k : ∀ W', St w0 G0 l W' → RR (.bool (L.any p)) W') : CallF Tryz.prog 52 #[v, f] W RR := by
  refine sh52_calls ?_
  unfold sh52
  refine idxEn_spec hs hL hp h fun W n hn h => a_geq ?_
  have e : decide ((n : Int) ≥ 0) = L.any p := by
    rw [Bool.eq_iff_iff, decide_eq_true_iff]
    exact hn
  rw [e]
  exact k W h
theorem fsame_spec [i : Has l b (EnB e) R] (h : St w0 G0 l W) {x : Ent} (k : ∀ W', St w0 G0 l W' → RR (.bool (decide (x.guid = e.guid))) W') : CallF Tryz.prog 87 #[.agg (entC x).toArray, .pointer (some ⟨b, 0, none⟩)] W RR := by
  refine sh87_calls ?_
  unfold sh87
  refine h.boxS (cs := entC x) fun b1 W h => ?_
  replace h : St w0 G0 (Ky b1 (EnB x) :: l) W := h
  exact a_fld0 (h.load (a_fld0 (h.load (w_eqlL (k _ h.tail)))))
theorem adds_spec [i : Has l b (FdO tt L) R] (h : St w0 G0 l W) (hL : L.length ≤ 1000000) (k : ∀ W', St w0 G0 (Ky b (FdO tt (addX L e)) :: R) W' → RR (.tuple #[]) W') : CallF Tryz.prog 49 #[.pointer (some ⟨b, 0, none⟩), .agg (entC e).toArray] W RR := by
  refine sh49_calls ?_
  unfold sh49
  replace h := h.find (k := b) (X := FdO tt L)
  refine h.boxS (cs := entC e) fun t3 W h => ?_
  replace h : St w0 G0 (Ky t3 (EnB e) :: Ky b (FdO tt L) :: R) W := h
  refine jni (fun vs W' => vs = [.pointer (some ⟨b, 0, none⟩), .pointer (some ⟨t3, 0, none⟩)] ∧ St w0 G0 (Ky t3 (EnB { e with guid := guidX e }) :: Ky b (FdO tt L) :: R) W') ?_ ?_
  · rintro vs W _ ⟨rfl, h⟩
    refine app2 ?_
    have skip : (guidX e = [] ∨ (L.any fun x => decide (x.guid = guidX e)) = true) → ∀ {W}, St w0 G0 (Ky t3 (EnB { e with guid := guidX e }) :: Ky b (FdO tt L) :: R) W → RR (.tuple #[]) W := fun hc {W} h => by
      unfold addX at k
      rw [if_pos hc] at k
      exact k W h.tail
    refine a_fld0 (h.load (w_eqlL (b := []) (ifd (fun hg => skip (.inl hg) h) fun hg => ?_)))
    replace h : St w0 G0 (Ky b (FdO tt L) :: Ky t3 (EnB { e with guid := guidX e }) :: R) W := h.swap
    obtain ⟨ve, ove, h⟩ := openF (b := b) (tt := tt) (L := L) h
    replace h : St w0 G0 (Ky t3 (EnB { e with guid := guidX e }) :: FdB b tt ve :: Ky ve (EnS L) :: R) W := h.to
    refine a_nil (a_fld0 (h.load (v_func ?_)))
    refine hasEn_spec (l := Ky t3 (EnB { e with guid := guidX e }) :: FdB b tt ve :: Ky ve (EnS L) :: R) (L := L) (p := fun x => decide (x.guid = guidX e)) (fun W h => h.osl (v := ve)) hL (fun x hx W K h kk => ?_) h fun W h => ifb (fun hany => ?_) fun hany => ?_
    · refine callV_cl (hentD _ (by kernel_rfl)) ?_
      exact fsame_spec (b := t3) (e := { e with guid := guidX e }) (x := x) h kk
    · refine skip (.inr hany) (St.swap (shutF ove ?_))
      exact h.to
    unfold addX at k
    rw [if_neg (by rw [hany]; simpa using hg)] at k
    refine a_nil (a_fld0 (h.load (x_lenS (h.osl (v := ve)) (a_fld0 (h.store fun W h => ?_)))))
    replace h : St w0 G0 (Ky t3 (EnB { e with guid := guidX e, num := L.length }) :: FdB b tt ve :: Ky ve (EnS L) :: R) W := h.to
    generalize hE : ({ e with guid := guidX e, num := (L.length : Int) } : Ent) = E at *
    refine ⟨fun W => Rec W b 27 [strV tt, ve] ∧ Rec W t3 34 (entC E), ⟨h.drew.rc, h.drew.rc⟩, ?_⟩
    replace h := h.drew
    refine a_nil (a_fld0 (s_ld (t := 27) (cs := [strV tt, ve]) (fun w hw => hw.1) rfl ?_))
    refine s_lds (cs := entC E) (fun w hw => hw.2) ?_
    refine h.lit fun u1 W w1 h => ⟨⟨h.rc, h.rc⟩, ?_⟩
    refine h.app (v := ve) (h.osl (v := u1)) (entC_one E) (by unfold maxLen; omega) (by omega) fun va2 W o1 h _ => ?_
    refine a_nil (a_fld0 (h.store fun W h => ?_))
    have e1 : L.length + 1 = (L ++ [E]).length := by simp
    have e2 : rcells entC L ++ entC E = rcells entC (L ++ [E]) := by rw [rc_append, rc_single]
    rw [e2, e1] at h
    exact k W (shutF o1 h.to)
  · refine a_fld0 (h.load (w_eqlL (b := []) (ifd (fun hg => ?_) fun hg => ?_)))
    · have e1 : guidX e = e.link := by unfold guidX; rw [if_pos hg]
      rw [e1]
      refine a_fld0 (h.load (a_fld0 (h.store fun W h => ⟨rfl, h.to⟩)))
    · have e1 : guidX e = e.guid := by unfold guidX; rw [if_neg hg]
      rw [e1]
      exact ⟨rfl, h⟩
theorem longE_spec (h : St w0 G l W) (k : ∀ W', St w0 G l W' → RR (.bool (longE e)) W') : CallF Tryz.prog 53 #[.agg (entC e).toArray] W RR := by
  refine sh53_calls ?_
  unfold sh53
  refine h.boxS (cs := entC e) fun b1 W h => ?_
  replace h : St w0 G (Ky b1 (EnB e) :: l) W := h
  refine a_fld0 (h.load (x_len (a_fld0 (h.load (x_len (a_fld0 (h.load (x_len (w_max3 (a_gtr ?_)))))))))) 
  have e1 : decide (max (max (e.guid.length : Int) e.title.length) e.link.length > 500) = longE e := by
    unfold longE
    rw [Bool.eq_iff_iff, decide_eq_true_iff, decide_eq_true_iff]
    omega
  rw [e1]
  exact k W h.tail
theorem wrong_spec (hs : Ens w0 ve L) (hL : L.length ≤ 1000000) (h : St w0 G0 l W) (k : ∀ W', St w0 G0 l W' → RR (.int .i64 (wrongX (tt, L))) W') : CallF Tryz.prog 28 #[.agg #[strV tt, ve]] W RR := by
  refine sh28_calls ?_
  unfold sh28
  haveI : Cel1 ve := Cel1.of_sl hs
  refine h.boxS (cs := [strV tt, ve]) fun b1 W h => ?_
  unfold wrongX at k
  simp only at k
  refine a_fld0 (h.load (x_lenS hs (a_gtr (ifd (fun hc => ?_) fun hc => ?_))))
  · rw [if_pos (by omega)] at k
    exact k W h.tail
  rw [if_neg (by omega)] at k
  refine a_fld0 (h.load (x_len (a_gtr (ifd (fun hc => ?_) fun hc => ?_))))
  · rw [if_pos (.inl (by omega))] at k
    exact k W h.tail
  refine a_fld0 (h.load ?_)
  refine hasEn_spec (p := longE) (fun W h => Sl.below hs h.low) hL (fun x hx W K h kk => callV_fn (hentD _ (by kernel_rfl)) (longE_spec h kk)) h fun W h => ifb (fun ha => ?_) fun ha => ?_
  · rw [if_pos (.inr ha)] at k
    exact k W h.tail
  · rw [if_neg (by rw [ha]; simp; omega)] at k
    exact k W h.tail
end
end Go.Proofs.YtlflpbflpcmckaaGreatDoor
namespace Go.Proofs.YtlflpbflpcmckaaGreatDoor
open Go Go.Ez Go.RowKit Go.Lib
set_option linter.unusedSimpArgs false
set_option linter.unusedVariables false
section
variable {w0 W W' : World} {G : Nat → Prop} {l R R1 R2 : List As} {RR : Value → World → Prop} {s sp nm tt : Txt} {v ve f : Value} {ts : List XTk} {t : XTk} {i n b : Nat} {K : Value → Prop} {k0 : IntKind} {L : List Ent} {e : Ent} {p : Ent → Bool}
abbrev RfC (t7 : Nat) (tt : Txt) (g : List XTk → Ent) (L : List (List XTk)) (i : Nat) : As := As.all True [Ky t7 (FdO tt ((L.take i).foldl (fun l c => addX l (g c)) []))]
abbrev FdZ : Nat → As := Ob (.cells [(.string ⟨#[]⟩ : Value), .slice none 0 0].toArray 27 (0, 0))
abbrev RfD (_ : Code) (_ : Nat) : As := As.all False []
theorem foldl_take {g : List XTk → Ent} {L : List (List XTk)} {i : Nat} {c : List XTk} (h : L[i]? = some c) : (L.take (i + 1)).foldl (fun l c => addX l (g c)) [] = addX ((L.take i).foldl (fun l c => addX l (g c)) []) (g c) := by
  rw [List.take_add_one, h, List.foldl_append]; rfl
theorem subs_get {i : Nat} {p : Nat × Nat} (h : (kids sp nm ts)[i]? = some p) : (subs sp nm ts)[i]? = some (subN ts p) := by unfold subs; rw [List.getElem?_map, h]; rfl
theorem subs_few (hf : Few ts) : (subs sp nm ts).length ≤ 90000 := by
  unfold subs kids
  rw [List.length_map]
  exact Nat.le_trans kidsGo_len hf.n
theorem take_few {g : List XTk → Ent} {L : List (List XTk)} {i : Nat} (h : L.length ≤ 90000) : ((L.take i).foldl (fun l c => addX l (g c)) []).length ≤ 1000000 := by
  have := foldX_len g (L.take i) []
  rw [List.length_take, List.length_nil] at this
  omega
theorem readX_cons (t : XTk) (tl : List XTk) : readX (t :: tl) = if t.space = [] ∧ t.name = tRss then ((inT [] tTitle ((childX [] tChan (t :: tl)).getD []), (subs [] tItem ((childX [] tChan (t :: tl)).getD [])).foldl (fun l c => addX l (itemX c)) []), (childX [] tChan (t :: tl)).isSome)
    else if t.space = tAtom ∧ t.name = tFeed then ((inT tAtom tTitle (t :: tl), (subs tAtom tEntry (t :: tl)).foldl (fun l c => addX l (entryX c)) []), true)
    else (([], []), false) := rfl
theorem read_spec (ht : Toks w0 v ts) (hf : Few ts) (h0 : 0 < ts.length) (h : St w0 G0 l W) (k : ∀ ve W', Cel1 ve → St w0 G0 (Ky ve (EnS (readX ts).1.2) :: l) W' → RR (.tuple #[.agg #[strV (readX ts).1.1, ve], .bool (readX ts).2]) W') : CallF Tryz.prog 27 #[v] W RR := by
  refine sh27_calls ?_
  unfold sh27
  obtain ⟨t, tl, hts⟩ : ∃ t tl, ts = t :: tl := by
    cases ts with
    | nil => cases h0
    | cons t tl => exact ⟨t, tl, rfl⟩
  have hrd : readX ts = if t.space = [] ∧ t.name = tRss then ((inT [] tTitle ((childX [] tChan ts).getD []), (subs [] tItem ((childX [] tChan ts).getD [])).foldl (fun l c => addX l (itemX c)) []), (childX [] tChan ts).isSome)
    else if t.space = tAtom ∧ t.name = tFeed then ((inT tAtom tTitle ts, (subs tAtom tEntry ts).foldl (fun l c => addX l (entryX c)) []), true)
    else (([], []), false) := by rw [hts]; rfl
  have g0 : ts[0]? = some t := by rw [hts]; rfl
  refine h.allocS fun t2 W h => ?_
  have ht' := ht
  obtain ⟨ov, ho, hs, hats⟩ := ht'
  obtain ⟨va, hva⟩ := tk_ov ho g0
  obtain ⟨o1, hs3⟩ := hats _ (List.mem_of_getElem? hva)
  haveI : Cel1 va := ⟨o1⟩
  refine x_rcl (i := 0) tcell_len (hs.below h.low) rfl hva ?_
  refine h.allocS fun t4 W h => ?_
  refine h.storeS (cs' := tcell (t, va)) fun W h => ?_
  clear hats hva hs ho
  have dflt : ¬ (t.space = [] ∧ t.name = tRss) → ¬ (t.space = tAtom ∧ t.name = tFeed) → RunV Tryz.prog (Instr.build 27 #[]) W fun t58 w => RunU Tryz.prog (Instr.storeAt 27 (.pointer (some ⟨t2, 0, none⟩)) t58) w fun w => RunW Tryz.prog (Instr.loadAt 27 (.pointer (some ⟨t2, 0, none⟩))) w fun x => RR (.tuple #[x, .bool false]) w := fun h1 h2 => by
    rw [hrd, if_neg h1, if_neg h2] at k
    refine x_bld (cells := #[strV [], .slice none 0 0]) (by kernel_rfl) ?_
    refine h.storeS (cs' := [strV [], .slice none 0 0]) fun W h => h.loadS ?_
    have hz : St w0 G0 (Ky (.slice none 0 0) (EnS []) :: _) W := h.nilOw
    exact k _ _ ⟨rfl⟩ hz.to
  have atomP : ¬ (t.space = [] ∧ t.name = tRss) → t.space ≠ [] → True := fun _ _ => trivial
  refine a_fld0 (h.load (w_eqlL (b := []) (ifd (fun hs1 => ?_) fun hs1 => ?_)))
  · refine a_fld0 (h.load (w_eqlL (b := tRss) (ifd (fun hn1 => ?_) fun hn1 => ?_)))
    · rw [hrd, if_pos ⟨hs1, hn1⟩] at k
      clear dflt hrd
      refine child_spec (sp := []) (nm := tChan) ht hf h fun v1 W h t1 => a_ext0 (a_ext1 ?_)
      have hf1 := hf.child (sp := []) (nm := tChan)
      generalize (childX [] tChan ts).isSome = ok at *
      generalize (childX [] tChan ts).getD [] = cs at *
      refine inT_spec (sp := []) (nm := tTitle) t1 hf1 h fun W h => ?_
      dsimp only at k
      generalize inT [] tTitle cs = tt at *
      refine x_bld (cells := #[strV tt, .slice none 0 0]) (by kernel_rfl) ?_
      refine h.allocS fun t7 W h => ?_
      refine h.storeS (cs' := [strV tt, .slice none 0 0]) fun W h => ?_
      refine children_spec (sp := []) (nm := tItem) t1 h fun a3 a4 a5 W h => ?_
      have hI := children_itr (t3 := a3) (t4 := a4) (t5 := a5) (sp := []) (nm := tItem) t1 hf1
      have hL : (subs [] tItem cs).length = (kidsV v1 [] tItem cs).length := by unfold subs kidsV; simp
      have hLn : (subs [] tItem cs).length ≤ 90000 := subs_few hf1
      refine rngI (C := RfC t7 tt itemX (subs [] tItem cs)) (Dd := RfD) hI kidsV_one (l := Ky t2 FdZ :: l) ?_ ?_ ?_ ?_
      · have hz : St w0 G0 (Ky (.slice none 0 0) (EnS []) :: _) W := h.nilOw
        refine St.shut1 trivial (shutF (L := ([] : List Ent)) (ve := .slice none 0 0) ⟨rfl⟩ ?_)
        exact hz.to
      · intro i x hxi ll rec I W kn ks h hkn hks
        obtain ⟨p, hp, rfl⟩ := kidsV_get hxi
        have hpk := kids_ok hp
        refine app1 ?_
        refine ⟨h.ob (b := ll), ?_⟩
        replace h := h.putO (b := ll) (o := .loop (rec .ready none)) (.loop (rec .busy none))
        replace h : St w0 G0 (Ky i (RfC t7 tt itemX (subs [] tItem cs)) :: Ky ll (Ob (.loop (rec .busy none))) :: I) _ := h.to
        obtain ⟨_, h⟩ := St.open1 h
        refine app2 ?_
        have tp := t1.sub (p := p) (by omega) hpk.2
        refine item_spec tp hf1.sub h fun W h => ?_
        refine adds_spec (b := t7) h (take_few hLn) fun W h => ?_
        rw [← foldl_take (subs_get hp)] at h
        exact hkn W (St.swap (St.shut1 trivial h.to))
      · intro D W h
        replace h : St w0 G0 (Ky (kidsV v1 [] tItem cs).length (RfC t7 tt itemX (subs [] tItem cs)) :: Ky D (Ob (.deferred (some []))) :: Ky (chFn a3 a4 a5) (ChA a3 a4 a5 v1 [] tItem) :: Ky t2 FdZ :: l) W := h.swap
        obtain ⟨_, h⟩ := St.open1 h
        rw [← hL, List.take_length] at h
        obtain ⟨ve, ove, h⟩ := openF (b := t7) h
        refine h.loadS (h.storeS (cs' := [strV tt, ve]) fun W h => ?_)
        refine ⟨h.ob (b := D), ?_⟩
        replace h := h.putO (b := D) (o := .deferred (some [])) (.deferred none)
        refine h.loadS ?_
        exact k ve _ ove h.to
      · intro D c i W hi h
        replace h : St w0 G0 (As.all False [] :: _) W := h.swap
        exact (St.openA h).1.elim
    · refine a_fld0 (h.load (w_eqlL (b := tAtom) (ifd_neg (by rw [hs1]; decide) ?_)))
      exact dflt (fun hh => hn1 hh.2) fun hh => absurd (hs1.symm.trans hh.1) (by decide)
  · refine a_fld0 (h.load (w_eqlL (b := tAtom) (ifd (fun hs2 => ?_) fun hs2 => ?_)))
    · refine a_fld0 (h.load (w_eqlL (b := tFeed) (ifd (fun hn2 => ?_) fun hn2 => ?_)))
      · rw [hrd, if_neg (fun hh => hs1 hh.1), if_pos ⟨hs2, hn2⟩] at k
        clear dflt hrd
        refine inT_spec (sp := tAtom) (nm := tTitle) ht hf h fun W h => ?_
        dsimp only at k
        generalize inT tAtom tTitle ts = tt at *
        refine x_bld (cells := #[strV tt, .slice none 0 0]) (by kernel_rfl) ?_
        refine h.allocS fun t7 W h => ?_
        refine h.storeS (cs' := [strV tt, .slice none 0 0]) fun W h => ?_
        refine children_spec (sp := tAtom) (nm := tEntry) ht h fun a3 a4 a5 W h => ?_
        have hI := children_itr (t3 := a3) (t4 := a4) (t5 := a5) (sp := tAtom) (nm := tEntry) ht hf
        have hL : (subs tAtom tEntry ts).length = (kidsV v tAtom tEntry ts).length := by unfold subs kidsV; simp
        have hLn : (subs tAtom tEntry ts).length ≤ 90000 := subs_few hf
        refine rngI (C := RfC t7 tt entryX (subs tAtom tEntry ts)) (Dd := RfD) hI kidsV_one (l := Ky t2 FdZ :: l) ?_ ?_ ?_ ?_
        · have hz : St w0 G0 (Ky (.slice none 0 0) (EnS []) :: _) W := h.nilOw
          refine St.shut1 trivial (shutF (L := ([] : List Ent)) (ve := .slice none 0 0) ⟨rfl⟩ ?_)
          exact hz.to
        · intro i x hxi ll rec I W kn ks h hkn hks
          obtain ⟨p, hp, rfl⟩ := kidsV_get hxi
          have hpk := kids_ok hp
          refine app1 ?_
          refine ⟨h.ob (b := ll), ?_⟩
          replace h := h.putO (b := ll) (o := .loop (rec .ready none)) (.loop (rec .busy none))
          replace h : St w0 G0 (Ky i (RfC t7 tt entryX (subs tAtom tEntry ts)) :: Ky ll (Ob (.loop (rec .busy none))) :: I) _ := h.to
          obtain ⟨_, h⟩ := St.open1 h
          refine app2 ?_
          have tp := ht.sub (p := p) (by omega) hpk.2
          refine entry_spec tp hf.sub h fun W h => ?_
          refine adds_spec (b := t7) h (take_few hLn) fun W h => ?_
          rw [← foldl_take (subs_get hp)] at h
          exact hkn W (St.swap (St.shut1 trivial h.to))
        · intro D W h
          replace h : St w0 G0 (Ky (kidsV v tAtom tEntry ts).length (RfC t7 tt entryX (subs tAtom tEntry ts)) :: Ky D (Ob (.deferred (some []))) :: Ky (chFn a3 a4 a5) (ChA a3 a4 a5 v tAtom tEntry) :: Ky t2 FdZ :: l) W := h.swap
          obtain ⟨_, h⟩ := St.open1 h
          rw [← hL, List.take_length] at h
          obtain ⟨ve, ove, h⟩ := openF (b := t7) h
          refine h.loadS (h.storeS (cs' := [strV tt, ve]) fun W h => ?_)
          refine ⟨h.ob (b := D), ?_⟩
          replace h := h.putO (b := D) (o := .deferred (some [])) (.deferred none)
          refine h.loadS ?_
          exact k ve _ ove h.to
        · intro D c i W hi h
          replace h : St w0 G0 (As.all False [] :: _) W := h.swap
          exact (St.openA h).1.elim
      · exact dflt (fun hh => hs1 hh.1) fun hh => hn2 hh.2
    · exact dflt (fun hh => hs1 hh.1) fun hh => hs2 hh.1
end
end Go.Proofs.YtlflpbflpcmckaaGreatDoor
namespace Go.Proofs.YtlflpbflpcmckaaGreatDoor
open Go Go.Ez Go.RowKit Go.Lib
set_option linter.unusedSimpArgs false
set_option linter.unusedVariables false
theorem tok_few {s : Txt} (h : (tokX s).2 = 0) : Few (tokX s).1 ∧ 2 ≤ (tokX s).1.length := by
  have hs : s.length ≤ 20000 := by
    refine Classical.byContradiction fun hn => ?_
    unfold tokX XRd.tokens at h
    rw [if_pos (by omega)] at h
    cases h
  have hl : (tokX s).1.length ≤ 3 * s.length + 8 := XRd.tokens_len (dec := decX) (sgn := signS) (b := s) decX_ok (fun q => part_len)
  have hab := tokX_ab s
  rcases XRd.tokens_pairs (dec := decX) (sgn := signS) (b := s) decX_ok with ⟨he, _⟩ | ⟨_, hch, h2⟩
  · exact absurd h he
  have hm : (s.length + 3) * (s.length + 3 + 1) ≤ 20003 * 20004 := Nat.mul_le_mul (by omega) (by omega)
  refine ⟨⟨by omega, fun t ht => by have := (hab t ht).1; omega, fun t ht => ?_, fun t ht a ha => by have := (hab t ht).2.2 a ha; omega⟩, h2⟩
  by_cases hk : t.kind = 3
  · obtain ⟨i, hi⟩ := List.getElem?_of_mem ht
    have hc : ∀ j, j ≤ i → ∃ st, XRd.chk ((tokX s).1.take j) [] [] = some st := by
      intro j
      induction j with
      | zero => intro _; exact ⟨[], by rw [List.take_zero]; rfl⟩
      | succ j ih =>
        intro hj
        obtain ⟨st, hst⟩ := ih (by omega)
        have hil := (List.getElem?_eq_some_iff.1 hi).1
        obtain ⟨st', _, h3⟩ := XRd.chk_at hch (List.getElem?_eq_getElem (by omega : j < (tokX s).1.length)) hst
        exact ⟨st', h3⟩
    obtain ⟨st, hst⟩ := hc i (Nat.le_refl _)
    obtain ⟨st', h3, _⟩ := XRd.chk_at hch hi hst
    unfold XRd.chkStep at h3
    rw [if_neg (by omega), if_neg (by omega), if_pos hk] at h3
    split at h3
    · cases h3
    · rename_i hh
      have : ¬ 8000 < t.text.length := fun hx => hh (.inr (.inr (.inl hx)))
      omega
  · rw [(hab t ht).2.1 hk]; exact Nat.zero_le _
section
variable {w0 W W' : World} {G : Nat → Prop} {l R R1 R2 : List As} {RR : Value → World → Prop} {s : Txt} {v ve f : Value}
theorem fparse_spec (hT : XTabs w0) (hv : By w0 v s) (h : St w0 G0 l W) (k : ∀ ve W', Cel1 ve → St w0 G0 (Ky ve (EnS (feedX (tokX s)).1.2) :: l) W' → RR (.tuple #[.agg #[strV (feedX (tokX s)).1.1, ve], .int .i64 (feedX (tokX s)).2]) W') : CallF Tryz.prog 10 #[v] W RR := by
  refine sh10_calls ?_
  unfold sh10
  refine h.allocS fun t2 W h => ?_
  refine tokens_spec hT (s := s) h (hv.below h.low) fun v1 W h t1 => a_ext0 (a_ext1 ?_)
  have hfew := tok_few (s := s)
  have errP : ∀ (c : Int) W, St w0 G0 (Ky t2 FdZ :: l) W → feedX (tokX s) = (([], []), c) → RunV Tryz.prog (Instr.build 27 #[]) W fun t58 w => RunU Tryz.prog (Instr.storeAt 27 (.pointer (some ⟨t2, 0, none⟩)) t58) w fun w => RunW Tryz.prog (Instr.loadAt 27 (.pointer (some ⟨t2, 0, none⟩))) w fun x => RR (.tuple #[x, .int .i64 c]) w := fun c W h e => by
    rw [e] at k
    refine x_bld (cells := #[strV [], .slice none 0 0]) (by kernel_rfl) ?_
    refine h.storeS (cs' := [strV [], .slice none 0 0]) fun W h => h.loadS ?_
    have hz : St w0 G0 (Ky (.slice none 0 0) (EnS []) :: _) W := h.nilOw
    exact k _ _ ⟨rfl⟩ hz.to
  generalize tokX s = p at *
  refine w_neq (ifd (fun hc => ?_) fun hc => ?_)
  · exact errP _ W h.to (by unfold feedX; rw [if_pos hc])
  have hp0 : p.2 = 0 := by omega
  obtain ⟨hf, h2⟩ := hfew hp0
  refine read_spec t1 hf (by omega) (St.start W) fun ve W ove h' => a_ext0 (a_ext1 ?_)
  replace h := h.frame1 h'
  refine h.allocS fun t6 W h => ?_
  refine h.storeS (cs' := [strV (readX p.1).1.1, ve]) fun W h => ?_
  replace h : St w0 G0 (Ky t6 (Ob (.cells [strV (readX p.1).1.1, ve].toArray 27 (0, 0))) :: Ky ve (EnS (readX p.1).1.2) :: Ky t2 FdZ :: l) W := h.to
  refine a_not (ifnb (fun hr => ?_) fun hr => ?_)
  · exact errP _ W h.to (by unfold feedX; rw [if_neg hc, if_pos hr])
  refine h.loadS ?_
  have hwf : (wrongX (readX p.1).1 : Int) = wrongX ((readX p.1).1.1, (readX p.1).1.2) := rfl
  have hln : (readX p.1).1.2.length ≤ 1000000 := by
    unfold readX
    cases hp1 : p.1 with
    | nil => exact Nat.zero_le _
    | cons t tl =>
      rw [hp1] at hf
      simp only
      split
      · have := take_few (g := itemX) (L := subs [] tItem ((childX [] tChan (t :: tl)).getD [])) (i := (subs [] tItem ((childX [] tChan (t :: tl)).getD [])).length) (subs_few hf.child)
        rw [List.take_length] at this
        exact this
      · split
        · have := take_few (g := entryX) (L := subs tAtom tEntry (t :: tl)) (i := (subs tAtom tEntry (t :: tl)).length) (subs_few hf)
          rw [List.take_length] at this
          exact this
        · exact Nat.zero_le _
  refine wrong_spec (tt := (readX p.1).1.1) (L := (readX p.1).1.2) (h.osl (v := ve)) hln (St.start W) fun W h' => ?_
  replace h := h.ext h'.low
  rw [← hwf]
  refine w_neq (ifd (fun hw => ?_) fun hw => ?_)
  · exact errP _ W h.to (by unfold feedX; rw [if_neg hc, if_neg (by rw [hr]; decide), if_pos hw])
  · have e : feedX p = ((readX p.1).1, 0) := by unfold feedX; rw [if_neg hc, if_neg (by rw [hr]; decide), if_neg hw]
    rw [e] at k
    refine h.loadS (h.storeS (cs' := [strV (readX p.1).1.1, ve]) fun W h => h.loadS ?_)
    exact k ve W ove h.to
theorem cellsBy : ∀ bs : Txt, (bs.map byteV).flatMap (fun v => v.cells.toList) = bs.map byteV
  | [] => rfl
  | c :: bs => by rw [List.map_cons, List.flatMap_cons, cellsBy bs]; rfl
theorem litBy {t e : TypeId} {bytes n : Nat} {z : Value} {ps : List (Nat × Value)} {KW : Value → World → Prop} [S : SlT Tryz.prog t e 1 bytes z] (bs : Txt) (h : St w0 G l W) (hp : ps = numbered 0 (bs.map byteV)) (hn : bs.length = n) (k : ∀ v W', Cel1 v → St w0 G (Ky v (Ow e 1 n (bs.map byteV)) :: l) W' → KW v W') (hm : n * 1 ≤ 16777216 := by decide) : RunV Tryz.prog (Instr.buildSlice t n ps.toArray) W KW := by
  haveI : Prt ps 0 (bs.map byteV) := ⟨hp⟩
  haveI : Len (bs.map byteV) n := ⟨by rw [List.length_map, hn]⟩
  haveI : CellsL 1 (bs.map byteV) (bs.map byteV) := ⟨fun v hv => by
    obtain ⟨c, _, rfl⟩ := List.mem_map.1 hv
    rfl, cellsBy bs⟩
  exact h.lit k hm
def fFirst : Txt := [60, 114, 115, 115, 62, 60, 99, 104, 97, 110, 110, 101, 108, 62, 60, 116, 105, 116, 108, 101, 62, 84, 60, 47, 116, 105, 116, 108, 101, 62, 60, 105, 116, 101, 109, 62, 60, 108, 105, 110, 107, 62, 117, 60, 47, 108, 105, 110, 107, 62, 60, 47, 105, 116, 101, 109, 62, 60, 47, 99, 104, 97, 110, 110, 101, 108, 62, 60, 47, 114, 115, 115, 62]
theorem ffirst_x : feedX (tokX fFirst) = (([84], [⟨0, [117], [], [117], 0⟩]), 0) := by decide +kernel
theorem x_en {f off : Nat} {ty : TypeId} {z u : Value} {L : List Ent} {e : Ent} {i : Nat} {K : Value → Prop} {k0 : IntKind} [F : Fld Tryz.prog 34 f off] [T : Ty1 Tryz.prog ty z] (hs : Ens W v L) (hi : L[i]? = some e) (ho : off < 5) (hu : (entC e)[off]? = some u) (k : K u) :
    RunA Tryz.prog (Instr.indexAt 25 v (.int k0 (i : Int))) fun p => RunA Tryz.prog (Instr.fieldAt 34 p f) fun q => RunW Tryz.prog (Instr.loadAt ty q) W K :=
  x_fld hs (List.getElem?_eq_some_iff.1 hi).1 ho (by rw [rc_get entC_len hi ho]; exact hu) k
theorem ffirst_spec (hT : XTabs w0) (h : St w0 G0 l W) (k : ∀ W', St w0 G0 l W' → RR (.bool true) W') : CallF Tryz.prog 8 #[] W RR := by
  refine sh8_calls ?_
  unfold sh8
  refine litBy fFirst h (by kernel_rfl) (by decide) fun u1 W o1 h => ?_
  refine h.markB (v := u1) (by decide) fun W h => ?_
  have hT1 := xtabs_at hT h
  refine fparse_spec hT1 (s := fFirst) (h.rsl (v := u1)) (St.start W) fun ve W ove h' => a_ext0 (a_ext1 ?_)
  replace h := h.frame1 h'
  rw [ffirst_x] at h ⊢
  refine h.allocS fun t1 W h => ?_
  refine h.storeS (cs' := [strV [84], ve]) fun W h => ?_
  have hE : Ens W ve [⟨0, [117], [], [117], 0⟩] := h.osl (v := ve)
  refine w_eql (ifd_pos rfl ?_)
  refine a_fld0 (h.load (w_eqlL (ifd_pos rfl ?_)))
  refine a_fld0 (h.load (x_lenS hE (w_eql (ifd_pos rfl ?_))))
  refine a_fld0 (h.load (x_en (i := 0) (u := strV [117]) hE rfl (by decide) rfl (w_eqlL (ifd_pos rfl ?_))))
  refine a_fld0 (h.load (x_en (i := 0) (u := strV [117]) hE rfl (by decide) rfl (w_eqlL (ifd_pos rfl ?_))))
  refine a_fld0 (h.load (x_en (i := 0) (u := .int .i64 0) hE rfl (by decide) rfl (w_eql ?_)))
  exact k W h.to
end
end Go.Proofs.YtlflpbflpcmckaaGreatDoor
namespace Go.Ez
open Go Go.Proofs
def BlS (s : Txt) : Prop := ∀ c ∈ s, XRd.isBl c = true
theorem dw_all {p : UInt8 → Bool} : ∀ {s : Txt}, (∀ c ∈ s, p c = true) → s.dropWhile p = []
  | [], _ => rfl
  | c :: s, h => by rw [List.dropWhile_cons_of_pos (h c (List.mem_cons_self ..))]; exact dw_all fun d hd => h d (List.mem_cons_of_mem _ hd)
theorem dw_app {p : UInt8 → Bool} (a b : Txt) : (a ++ b).dropWhile p = if a.dropWhile p = [] then b.dropWhile p else a.dropWhile p ++ b := by
  induction a with
  | nil => rw [List.nil_append, List.dropWhile_nil, if_pos rfl]
  | cons c a ih =>
    rw [List.cons_append, List.dropWhile_cons, List.dropWhile_cons]
    split
    · exact ih
    · rw [if_neg (by simp)]; rfl
theorem dw_split {p : UInt8 → Bool} : ∀ s : Txt, ∃ a, s = a ++ s.dropWhile p ∧ ∀ c ∈ a, p c = true
  | [] => ⟨[], rfl, by simp⟩
  | c :: s => by
    rw [List.dropWhile_cons]
    split
    · rename_i h
      obtain ⟨a, e, ha⟩ := dw_split (p := p) s
      exact ⟨c :: a, by rw [List.cons_append, ← e], fun d hd => by
        rcases List.mem_cons.1 hd with rfl | hd
        · exact h
        · exact ha d hd⟩
    · exact ⟨[], rfl, by simp⟩
theorem dw_head {p : UInt8 → Bool} : ∀ {s : Txt} {c : UInt8} {r : Txt}, s.dropWhile p = c :: r → p c = false
  | [], _, _, h => by cases h
  | d :: s, c, r, h => by
    rw [List.dropWhile_cons] at h
    split at h
    · exact dw_head h
    · rename_i hd
      cases h
      simpa using hd
theorem rtr_app_bl {s b : Txt} (hb : BlS b) : rtr (s ++ b) = rtr s := by
  unfold rtr
  rw [List.reverse_append, dw_app, if_pos (dw_all fun c hc => hb c (by simpa using hc))]
theorem rtr_bl_app {a s : Txt} (ha : BlS a) : rtr (a ++ s) = if rtr s = [] then [] else a ++ rtr s := by
  unfold rtr
  rw [List.reverse_append, dw_app]
  by_cases h : s.reverse.dropWhile XRd.isBl = []
  · rw [if_pos h, h, List.reverse_nil, if_pos rfl, dw_all fun c hc => ha c (by simpa using hc)]; rfl
  · rw [if_neg h, if_neg (by simpa using h)]; simp
theorem trimX_around {a s b : Txt} (ha : BlS a) (hb : BlS b) : trimX (a ++ s ++ b) = trimX s := by
  unfold trimX
  rw [rtr_app_bl hb, rtr_bl_app ha]
  split
  · rename_i h; rw [h]
  · rw [dw_app, if_pos (dw_all ha)]
theorem trimX_idem (s : Txt) : trimX (trimX s) = trimX s := by
  have h1 : rtr (trimX s) = trimX s := by
    obtain ⟨a, e, ha⟩ := dw_split (p := XRd.isBl) (rtr s)
    have h2 : rtr (rtr s) = rtr s := by
      unfold rtr
      rw [List.reverse_reverse]
      congr 1
      generalize hx : s.reverse.dropWhile XRd.isBl = x
      cases x with
      | nil => rfl
      | cons c r => rw [List.dropWhile_cons_of_neg (by rw [dw_head hx]; decide)]
    have h3 : rtr s = a ++ trimX s := e
    by_cases ht : trimX s = []
    · rw [ht]; rfl
    · have h4 := h2
      rw [h3, rtr_bl_app ha] at h4
      split at h4
      · have := congrArg List.length h4
        rw [List.length_nil, List.length_append] at this
        exact absurd (List.eq_nil_of_length_eq_zero (by omega)) ht
      · exact List.append_cancel_left h4
  unfold trimX at h1 ⊢
  rw [h1]
  generalize hx : (rtr s).dropWhile XRd.isBl = x
  cases x with
  | nil => rfl
  | cons c r => rw [List.dropWhile_cons_of_neg (by rw [dw_head hx]; decide)]
end Go.Ez
namespace Go.Proofs.YtlflpbflpcmckaaGreatDoor
open Go Go.Ez Go.RowKit Go.Lib
set_option linter.unusedSimpArgs false
set_option linter.unusedVariables false
section
variable {w0 W W' : World} {G : Nat → Prop} {l R R1 R2 : List As} {RR : Value → World → Prop} {s : Txt} {v ve f : Value}
theorem bl4 (c : UInt8) : XRd.isBl c = true ↔ c = 32 ∨ c = 9 ∨ c = 10 ∨ c = 13 := by
  unfold XRd.isBl
  simp [or_assoc]
end
end Go.Proofs.YtlflpbflpcmckaaGreatDoor
namespace Go.Ez
open Go Go.Proofs
theorem secondP_ge {x : RSt} {y mo d h mi s off : Int} : 0 ≤ (secondP x y mo d h mi s off).1 := by
  unfold secondP rangeP
  split
  · exact Int.le_refl _
  · split
    · rename_i hw
      have := (Bool.and_eq_true _ _ ▸ hw : _ ∧ _).2
      unfold within at this
      exact (of_decide_eq_true this).1
    · exact Int.le_refl _
theorem netP_is (s : Txt) : ∃ x y mo d h mi c off, netP s = secondP x y mo d h mi c off := ⟨_, _, _, _, _, _, _, _, rfl⟩
theorem mailP_is (s : Txt) : ∃ x y mo d h mi c off, mailP s = secondP x y mo d h mi c off := ⟨_, _, _, _, _, _, _, _, rfl⟩
theorem netP_ge {s : Txt} : 0 ≤ (netP s).1 := by
  obtain ⟨x, y, mo, d, h, mi, c, off, e⟩ := netP_is s
  rw [e]; exact secondP_ge
theorem mailP_ge {s : Txt} : 0 ≤ (mailP s).1 := by
  obtain ⟨x, y, mo, d, h, mi, c, off, e⟩ := mailP_is s
  rw [e]; exact secondP_ge
theorem anyP_ge {s : Txt} : 0 ≤ (anyP s).1 := by
  unfold anyP
  by_cases h : (netP s).2 = 4
  · rw [if_pos h]; exact mailP_ge
  · rw [if_neg h]; exact netP_ge
theorem whenX_ge {s : Txt} : 0 ≤ whenX s := by
  unfold whenX
  by_cases h : (anyP s).2 ≠ 0
  · rw [if_pos h]; exact Int.le_refl _
  · rw [if_neg h]; exact anyP_ge
/-- an entry as it is read -/
structure TrE (e : Ent) : Prop where
  g : trimX e.guid = e.guid
  t : trimX e.title = e.title
  l : trimX e.link = e.link
  w : 0 ≤ e.when_
theorem inT_tr {sp nm : Txt} {ts : List XTk} : trimX (inT sp nm ts) = inT sp nm ts := trimX_idem _
theorem linkGo_tr : ∀ L : List (List XTk), trimX (linkGo L) = linkGo L
  | [] => rfl
  | c :: L => by
    unfold linkGo
    cases linkOk c with
    | none => exact linkGo_tr L
    | some h => exact trimX_idem h
theorem itemX_tr {n : List XTk} : TrE (itemX n) := ⟨@inT_tr [] tGuid n, @inT_tr [] tTitle n, @inT_tr [] tLink n, by unfold itemX; dsimp only; exact @whenX_ge (inT [] tPub n)⟩
theorem entryX_tr {n : List XTk} : TrE (entryX n) := ⟨@inT_tr tAtom tId n, @inT_tr tAtom tTitle n, linkGo_tr (subs tAtom tLink n), by unfold entryX; dsimp only; exact @whenX_ge (textX (dateN n))⟩
/-- entries as they stand: each has its own GUID, and its number -/
def EOk (L : List Ent) : Prop := ∀ (i : Nat) (e : Ent), L[i]? = some e → e.guid ≠ [] ∧ e.num = i ∧ TrE e ∧ ∀ (j : Nat) (f : Ent), j < i → L[j]? = some f → f.guid ≠ e.guid
theorem EOk.nil : EOk [] := fun i e h => by simp at h
theorem EOk.add {L : List Ent} {e : Ent} (h : EOk L) (he : TrE e) : EOk (addX L e) := by
  unfold addX
  split
  · exact h
  · rename_i hn
    intro i f hf
    rw [List.getElem?_append] at hf
    split at hf
    · rename_i hi
      obtain ⟨h1, h2, h3, h4⟩ := h i f hf
      refine ⟨h1, h2, h3, fun j g hj hg => h4 j g hj ?_⟩
      rw [List.getElem?_append_left (by omega)] at hg
      exact hg
    · rename_i hi
      obtain ⟨hi2, hf2⟩ : i = L.length ∧ f = { e with guid := guidX e, num := (L.length : Int) } := by
        cases hk : i - L.length with
        | zero => rw [hk] at hf; exact ⟨by omega, by simpa using hf.symm⟩
        | succ k => rw [hk] at hf; simp at hf
      subst hf2
      have hg : trimX (guidX e) = guidX e := by unfold guidX; split; exact he.l; exact he.g
      refine ⟨fun hh => hn (.inl hh), by rw [hi2], ⟨hg, he.t, he.l, he.w⟩, fun j g hj hgj => ?_⟩
      rw [List.getElem?_append_left (by omega)] at hgj
      intro hh
      refine hn (.inr ?_)
      rw [List.any_eq_true]
      exact ⟨g, List.mem_of_getElem? hgj, by simpa using hh⟩
theorem EOk.fold {α : Type} {g : α → Ent} (hg : ∀ c, TrE (g c)) : ∀ (L : List α) {l : List Ent}, EOk l → EOk (L.foldl (fun l c => addX l (g c)) l)
  | [], _, h => h
  | c :: L, _, h => EOk.fold hg L (h.add (hg c))
theorem readX_ok {ts : List XTk} : EOk (readX ts).1.2 := by
  unfold readX
  cases ts with
  | nil => exact .nil
  | cons t tl =>
    simp only
    split
    · exact EOk.fold (fun _ => itemX_tr) _ .nil
    · split
      · exact EOk.fold (fun _ => entryX_tr) _ .nil
      · exact .nil
theorem feedX_ok (p : List XTk × Int) : EOk (feedX p).1.2 ∧ (feedX p).1.2.length ≤ 200 ∧ (∀ e ∈ (feedX p).1.2, longE e = false) ∧ ((feedX p).2 ≠ 0 → (feedX p).1 = ([], [])) := by
  unfold feedX
  split
  · exact ⟨.nil, Nat.zero_le _, by simp, fun _ => rfl⟩
  · split
    · exact ⟨.nil, Nat.zero_le _, by simp, fun _ => rfl⟩
    · split
      · exact ⟨.nil, Nat.zero_le _, by simp, fun _ => rfl⟩
      · rename_i hw
        unfold wrongX at hw
        simp only [Decidable.not_not] at hw
        split at hw
        · cases hw
        · rename_i h200
          split at hw
          · cases hw
          · rename_i hl
            dsimp only
            refine ⟨readX_ok, by omega, fun e he => ?_, fun h => absurd rfl h⟩
            cases hx : longE e with
            | false => rfl
            | true => exact absurd (.inr (List.any_eq_true.2 ⟨e, he, hx⟩)) hl
end Go.Ez
namespace Go.Proofs.YtlflpbflpcmckaaGreatDoor
open Go Go.Ez Go.RowKit Go.Lib
set_option linter.unusedSimpArgs false
set_option linter.unusedVariables false
theorem en_eqIn (a b : Ent) (w : World) : (Op.equalIn 10000 34 (.agg (entC a).toArray) (.agg (entC b).toArray)).run Tryz.prog w = .ok (decide (a = b)) w := by
  have hf := fieldsOf_of Tryz.underlying34
  have ht : Tryz.prog.underlying 34 = some (.struct (Tryz.prog.fieldsOf 34)) := Tryz.underlying34.trans (by rw [hf])
  have hs : Tryz.prog.stoodInHeld 34 = false := by kernel_rfl
  have es : ∀ (d : Nat) (a b : List UInt8), (Op.equalIn (d + 1) 9 (strV a) (strV b)).run Tryz.prog w = .ok (decide (a = b)) w := fun d a b => by
    rw [run_equalIn_string w d 9 _ _ Tryz.underlying9]
    rw [bytes_eq]
  have ei : ∀ (d : Nat) (a b : Int), (Op.equalIn (d + 1) 3 (.int .i64 a) (.int .i64 b)).run Tryz.prog w = .ok (decide (a = b)) w := fun d a b => by
    rw [run_equalIn_int w d 3 _ _ _ _ Tryz.underlying3]
    congr 1
  rw [run_equalIn_agg w 9999 34 _ _ ht hs, hf]
  obtain ⟨a1, a2, a3, a4, a5⟩ := a
  obtain ⟨b1, b2, b3, b4, b5⟩ := b
  by_cases h1 : a1 = b1 <;> by_cases h2 : a2 = b2 <;> by_cases h3 : a3 = b3 <;> by_cases h4 : a4 = b4 <;> by_cases h5 : a5 = b5 <;> simp [Op.eqFields, go_sem, es 9998, ei 9998, h1, h2, h3, h4, h5, Result.andThen]
theorem s_neEn {S : World → Prop} {K : Value → Prop} {X Y : Operand} {a b : Ent} (h : K (.bool (!decide (a = b)))) : RunS Tryz.prog S (bin .neq 34 X Y (.agg (entC a).toArray) (.agg (entC b).toArray)) K := by
  refine .of (fun w _ => ?_) h
  have hg : Tryz.prog.eqGuardType Tryz.prog.depth 34 = false := by kernel_rfl
  show (do eqGuard .neq 34 X Y (.agg (entC a).toArray) (.agg (entC b).toArray); binOp .neq 34 (.agg (entC a).toArray) (.agg (entC b).toArray) : Sem Value).run Tryz.prog w = _
  simp only [Sem.run_bind, run_eqGuard_agg w .neq 34 X Y _ _ hg, Result.andThen, run_neq_struct, en_eqIn]
section
variable {w0 W W' : World} {G : Nat → Prop} {l R R1 R2 : List As} {RR : Value → World → Prop} {s ta tb : Txt} {v va vb f : Value} {L M : List Ent} {x y : Ent} {i n b : Nat}
theorem eqEn_spec (h1 : Ens w0 va L) (h2 : Ens w0 vb M) (hL : L.length ≤ 1000000) (h : St w0 G0 l W) (k : ∀ W', St w0 G0 l W' → RR (.bool (decide (L = M))) W') : CallF Tryz.prog 30 #[va, vb] W RR := by
  refine sh30_calls ?_
  unfold sh30
  have no : L ≠ M → ∀ {W}, St w0 G0 l W → RR (.bool false) W := fun hne {W} h => by
    rw [decide_eq_false hne] at k
    exact k _ h
  refine x_lenS h1 (x_lenS h2 (w_neq (ifd (fun hne => no (fun e => hne (by rw [e])) h) fun g5 => x_lenS h1 ?_)))
  have hlen : L.length = M.length := by omega
  refine lpx (α := Nat) (fun i => [nV .i64 i]) (fun i W' => i ≤ L.length ∧ L.take i = M.take i ∧ St w0 G0 l W') (fun i => L.length - i) 0 (fun _ => rfl) rfl ⟨Nat.zero_le _, rfl, h⟩ ?_
  clear h
  rintro next i W1 hnext ⟨q1, q2, h⟩
  refine app1 ?_
  refine a_lss (ifd (fun hc => ?_) fun hc => ?_)
  · have hi : i < L.length := by omega
    have ga : L[i]? = some L[i] := List.getElem?_eq_getElem hi
    have gb : M[i]? = some (M[i]'(by omega)) := List.getElem?_eq_getElem (by omega)
    generalize L[i] = a at ga
    generalize (M[i]'(by omega)) = b at gb
    refine ⟨St w0 G0 l, h.drew, ?_⟩
    replace h := h.drew
    have hS1 : ∀ w, St w0 G0 l w → Ens w va L := fun w hw => h1.below hw.low
    have hS2 : ∀ w, St w0 G0 l w → Ens w vb M := fun w hw => h2.below hw.low
    refine x_srcl entC_len (hS1 _ h) hS1 rfl ga ?_
    refine x_srcl entC_len (hS2 _ h) hS2 rfl gb ?_
    refine s_neEn (ifnd (fun hne => ?_) fun hab => ?_)
    · refine no (fun e => hne ?_) h
      rw [e, gb] at ga
      exact (Option.some.inj ga).symm
    · refine a_add64 (by omega) (by omega) ⟨rfl, rfl, rfl, ?_⟩
      rw [show ((i : Int) + 1) = ((i + 1 : Nat) : Int) by push_cast; rfl]
      exact hnext (i + 1) _ (by omega) ⟨by omega, by rw [List.take_add_one, List.take_add_one, ga, gb, q2, hab], h⟩
  · have hi : i = L.length := by omega
    rw [hi, List.take_length, hlen, List.take_length] at q2
    rw [decide_eq_true q2] at k
    exact k _ h
theorem entryEq_spec (h : St w0 G l W) (k : ∀ W', St w0 G l W' → RR (.bool (decide (x = y))) W') : CallF Tryz.prog 13 #[.agg (entC x).toArray, .agg (entC y).toArray] W RR := by
  refine sh13_calls ?_
  unfold sh13
  refine h.boxS (cs := entC x) fun b1 W h => ?_
  refine h.boxS (cs := entC y) fun b2 W h => ?_
  replace h : St w0 G (Ky b2 (EnB y) :: Ky b1 (EnB x) :: l) W := h
  have no : x ≠ y → ∀ {W}, St w0 G (Ky b2 (EnB y) :: Ky b1 (EnB x) :: l) W → RR (.bool false) W := fun hne {W} h => by
    rw [decide_eq_false hne] at k
    exact k _ h.tail.tail
  refine a_fld0 (h.load (a_fld0 (h.load (w_eql (ifd (fun g1 => ?_) fun hne => no (fun e => hne (by rw [e])) h)))))
  refine a_fld0 (h.load (a_fld0 (h.load (w_eqlL (ifd (fun g2 => ?_) fun hne => no (fun e => hne (by rw [e])) h)))))
  refine a_fld0 (h.load (a_fld0 (h.load (w_eqlL (ifd (fun g3 => ?_) fun hne => no (fun e => hne (by rw [e])) h)))))
  refine a_fld0 (h.load (a_fld0 (h.load (w_eqlL (ifd (fun g4 => ?_) fun hne => no (fun e => hne (by rw [e])) h)))))
  refine a_fld0 (h.load (a_fld0 (h.load (w_eql ?_))))
  have e : decide (x.when_ = y.when_) = decide (x = y) := by
    cases x; cases y
    simp only at g1 g2 g3 g4
    subst g1 g2 g3 g4
    simp
  rw [e]
  exact k _ h.tail.tail
theorem entries_spec (h1 : Ens w0 va L) (h2 : Ens w0 vb M) (hL : L.length ≤ 1000000) (h : St w0 G0 l W) (k : ∀ W', St w0 G0 l W' → RR (.bool (decide (L = M))) W') : CallF Tryz.prog 19 #[va, vb] W RR := by
  refine sh19_calls ?_
  unfold sh19
  have no : L ≠ M → ∀ {W}, St w0 G0 l W → RR (.bool false) W := fun hne {W} h => by
    rw [decide_eq_false hne] at k
    exact k _ h
  refine x_lenS h1 (x_lenS h2 (w_neq (ifd (fun hne => no (fun e => hne (by rw [e])) h) fun g5 => ?_)))
  have hlen : L.length = M.length := by omega
  refine lpx (α := Nat) (fun i => [nV .i64 i]) (fun i W' => i ≤ L.length ∧ L.take i = M.take i ∧ St w0 G0 l W') (fun i => L.length - i) 0 (fun _ => rfl) rfl ⟨Nat.zero_le _, rfl, h⟩ ?_
  clear h
  rintro next i W1 hnext ⟨q1, q2, h⟩
  refine app1 ?_
  refine x_lenS h1 (a_lss (ifd (fun hc => ?_) fun hc => ?_))
  · have hi : i < L.length := by omega
    have ga : L[i]? = some L[i] := List.getElem?_eq_getElem hi
    have gb : M[i]? = some (M[i]'(by omega)) := List.getElem?_eq_getElem (by omega)
    generalize L[i] = a at ga
    generalize (M[i]'(by omega)) = b at gb
    refine ⟨St w0 G0 l, h.drew, ?_⟩
    replace h := h.drew
    have hS1 : ∀ w, St w0 G0 l w → Ens w va L := fun w hw => h1.below hw.low
    have hS2 : ∀ w, St w0 G0 l w → Ens w vb M := fun w hw => h2.below hw.low
    refine x_srcl entC_len (hS1 _ h) hS1 rfl ga ?_
    refine x_srcl entC_len (hS2 _ h) hS2 rfl gb ?_
    refine entryEq_spec h fun W h => a_not (ifnb (fun hne => ?_) fun hab => ?_)
    · refine no (fun e => of_decide_eq_false hne ?_) h
      rw [e, gb] at ga
      exact (Option.some.inj ga).symm
    · refine a_add64 (by omega) (by omega) ⟨rfl, rfl, ?_⟩
      rw [show ((i : Int) + 1) = ((i + 1 : Nat) : Int) by push_cast; rfl]
      exact hnext (i + 1) _ (by omega) ⟨by omega, by rw [List.take_add_one, List.take_add_one, ga, gb, q2, of_decide_eq_true hab], h⟩
  · have hi : i = L.length := by omega
    rw [hi, List.take_length, hlen, List.take_length] at q2
    rw [decide_eq_true q2] at k
    exact k _ h
theorem feedEq {ta tb : Txt} {L M : List Ent} (h : ta = tb) : decide (L = M) = decide (((ta, L) : FdX) = (tb, M)) := by subst h; simp
theorem fdsame_spec (h1 : Ens w0 va L) (h2 : Ens w0 vb M) (hL : L.length ≤ 1000000) (h : St w0 G0 l W) (k : ∀ W', St w0 G0 l W' → RR (.bool (decide (((ta, L) : FdX) = (tb, M)))) W') : CallF Tryz.prog 16 #[.agg #[strV ta, va], .agg #[strV tb, vb]] W RR := by
  refine sh16_calls ?_
  unfold sh16
  haveI : Cel1 va := Cel1.of_sl h1
  haveI : Cel1 vb := Cel1.of_sl h2
  refine h.boxS (cs := [strV ta, va]) fun b1 W h => h.boxS (cs := [strV tb, vb]) fun b2 W h => ?_
  refine a_fld0 (h.load (a_fld0 (h.load (w_eqlL (ifd (fun ht => ?_) fun ht => ?_)))))
  · refine a_fld0 (h.load (a_fld0 (h.load ?_)))
    refine eqEn_spec h1 h2 hL h fun W h => ?_
    rw [feedEq ht]
    exact k W h.tail.tail
  · rw [decide_eq_false (fun e => ht (Prod.mk.inj e).1)] at k
    exact k W h.tail.tail
theorem rdsame_spec (h1 : Ens w0 va L) (h2 : Ens w0 vb M) (hL : L.length ≤ 1000000) (h : St w0 G0 l W) (k : ∀ W', St w0 G0 l W' → RR (.bool (decide (((ta, L) : FdX) = (tb, M)))) W') : CallF Tryz.prog 17 #[.agg #[strV ta, va], .agg #[strV tb, vb]] W RR := by
  refine sh17_calls ?_
  unfold sh17
  haveI : Cel1 va := Cel1.of_sl h1
  haveI : Cel1 vb := Cel1.of_sl h2
  refine h.boxS (cs := [strV ta, va]) fun b1 W h => h.boxS (cs := [strV tb, vb]) fun b2 W h => ?_
  refine a_fld0 (h.load (a_fld0 (h.load (w_eqlL (ifd (fun ht => ?_) fun ht => ?_)))))
  · refine a_fld0 (h.load (a_fld0 (h.load ?_)))
    refine entries_spec h1 h2 hL h fun W h => ?_
    rw [feedEq ht]
    exact k W h.tail.tail
  · rw [decide_eq_false (fun e => ht (Prod.mk.inj e).1)] at k
    exact k W h.tail.tail
theorem fplain_spec {w1 : World} (hs : Ens w1 va L) (h : St w0 G l W) (k : ∀ W', St w0 G l W' → RR (.agg #[strV ta, va]) W') : CallF Tryz.prog 18 #[.agg #[strV ta, va]] W RR := by
  refine sh18_calls ?_
  unfold sh18
  obtain ⟨ao, cap, rfl, _⟩ := hs
  refine h.boxS (cs := [strV ta, .slice ao L.length cap]) fun b1 W h => h.allocS fun b2 W h => ?_
  refine a_fld0 (h.load (a_fld0 (h.load (x_bld (cells := #[strV ta, .slice ao L.length cap]) (by kernel_rfl) ?_))))
  refine h.storeS (cs' := [strV ta, .slice ao L.length cap]) fun W h => h.loadS ?_
  exact k W h.tail.tail
theorem lhas_spec {a : List Txt} {s : Txt} {u : Value} (hu : Sl W 1 u a.length (a.map strV)) (ha : a.length ≤ 1000000000) (k : RR (.bool (decide (s ∈ a))) W) : CallF Tryz.prog 14 #[u, strV s] W RR := by
  refine sh14_calls ?_
  unfold sh14
  refine lpx (α := Nat) (fun i => [nV .i64 i]) (fun i W' => W' = W ∧ i ≤ a.length ∧ s ∉ a.take i) (fun i => a.length - i) 0 (fun _ => rfl) rfl ⟨rfl, Nat.zero_le _, by simp⟩ ?_
  rintro next i W' hnext ⟨rfl, hi, hno⟩
  refine app1 ?_
  refine x_lenS hu ?_
  refine a_lss (ifd (fun hlt => ?_) fun hlt => ?_)
  · have hil : i < a.length := by omega
    obtain ⟨p, hp⟩ : ∃ p, a[i]? = some p := ⟨_, List.getElem?_eq_getElem hil⟩
    refine x_at hu (u := strV p) (by rw [List.getElem?_map, hp]; rfl) ?_
    refine w_eqlL (ifd (fun he => ?_) fun he => ?_)
    · rw [decide_eq_true (by rw [← he]; exact List.mem_of_getElem? hp)] at k
      exact k
    · refine a_add64 (by omega) (by omega) ?_
      rw [show ((i : Int) + 1) = ((i + 1 : Nat) : Int) by push_cast; rfl]
      refine ⟨rfl, rfl, hnext (i + 1) W' (by omega) ⟨rfl, by omega, ?_⟩⟩
      rw [List.take_add_one, hp, List.mem_append]
      rintro (hx | hx)
      · exact hno hx
      · simp only [Option.toList_some, List.mem_singleton] at hx
        exact he hx.symm
  · obtain rfl : i = a.length := by omega
    rw [List.take_length] at hno
    rw [decide_eq_false hno] at k
    exact k
end
end Go.Proofs.YtlflpbflpcmckaaGreatDoor
namespace Go.Proofs.YtlflpbflpcmckaaGreatDoor
open Go Go.Ez Go.RowKit Go.Lib
set_option linter.unusedSimpArgs false
set_option linter.unusedVariables false
theorem s_neb' {P : Program} {S : World → Prop} {K : Value → Prop} {t : TypeId} {X Y : Operand} {a b : Bool} [u : Und P t .bool] (h : K (.bool (!(a == b)))) : RunS P S (bin .neq t X Y (.bool a) (.bool b)) K := s_of (v := .bool (!(a == b))) (fun w _ => x_neb rfl) h
section
variable {w0 W W' : World} {G : Nat → Prop} {l R R1 R2 : List As} {RR : Value → World → Prop} {s u : Txt} {v va vb f : Value} {L M : List Ent} {x y : Ent} {i n b : Nat}
abbrev Fd2 (t : Txt) (v : Value) : Nat → As := Ob (.cells [strV t, v].toArray 27 (0, 0))
theorem fonce_law (hT : XTabs w0) (hv : By w0 v s) (hu : By w0 f u) (h : St w0 G0 [] W) (k : ∀ W', St w0 G0 [] W' → RR (.bool true) W') : CallF Tryz.prog 5 #[v, f] W RR := by
  refine sh5_calls ?_
  unfold sh5
  refine ffirst_spec hT h fun W h => a_not (iff' ?_)
  have out : ∀ W, St w0 G0 [] W → CallF Tryz.prog 8 #[] W fun t w => RR t w := fun W h => ffirst_spec hT h fun W h => k W h
  refine x_lenS hv (a_gtr (ifd (fun _ => out W h) fun hs1 => ?_))
  refine x_lenS hu (a_gtr (ifd (fun _ => out W h) fun hs2 => ?_))
  refine fparse_spec hT hv h fun va W ova h => a_ext0 (a_ext1 ?_)
  have oka := feedX_ok (tokX s)
  generalize feedX (tokX s) = P1 at *
  obtain ⟨⟨ta, L⟩, ea⟩ := P1
  simp only at oka h
  obtain ⟨hok, h200, hlong, herr⟩ := oka
  have hL6 : L.length ≤ 1000000 := by omega
  refine h.allocS fun t5 W h => ?_
  refine h.storeS (cs' := [strV ta, va]) fun W h => ?_
  replace h : St w0 G0 (Ky t5 (Fd2 ta va) :: Ky va (EnS L) :: []) W := h.to
  refine fparse_spec hT hu h fun vb W ovb h => a_ext0 (a_ext1 ?_)
  have okb := (feedX_ok (tokX u)).2.2.2
  generalize feedX (tokX u) = P2 at *
  obtain ⟨⟨tb, M⟩, eb⟩ := P2
  simp only at okb h
  refine h.allocS fun t7 W h => ?_
  refine h.storeS (cs' := [strV tb, vb]) fun W h => ?_
  replace h : St w0 G0 (Ky t7 (Fd2 tb vb) :: Ky vb (EnS M) :: Ky t5 (Fd2 ta va) :: Ky va (EnS L) :: []) W := h.to
  have hEa : ∀ {W}, St w0 G0 (Ky t7 (Fd2 tb vb) :: Ky vb (EnS M) :: Ky t5 (Fd2 ta va) :: Ky va (EnS L) :: []) W → Ens W va L := fun h => h.osl (v := va)
  have hEb : ∀ {W}, St w0 G0 (Ky t7 (Fd2 tb vb) :: Ky vb (EnS M) :: Ky t5 (Fd2 ta va) :: Ky va (EnS L) :: []) W → Ens W vb M := fun h => h.osl (v := vb)
  refine jni (fun vs W' => vs = [.pointer (some ⟨t5, 0, none⟩), .pointer (some ⟨t7, 0, none⟩), .int .i64 eb] ∧ St w0 G0 (Ky t7 (Fd2 tb vb) :: Ky vb (EnS M) :: Ky t5 (Fd2 ta va) :: Ky va (EnS L) :: []) W') ?_ ?_
  · rintro vs W _ ⟨rfl, h⟩
    refine app3 ?_
    have h0 : St w0 G0 (Ky (.slice none 0 0) (Ow 9 1 0 (((L.take 0).map fun e => strV e.guid))) :: Ky t7 (Fd2 tb vb) :: Ky vb (EnS M) :: Ky t5 (Fd2 ta va) :: Ky va (EnS L) :: []) W := h.nilOw
    clear h
    refine lpx (α := Nat × Value) (fun A => [A.2, nV .i64 A.1]) (fun A W' => A.1 ≤ L.length ∧ Cel1 A.2 ∧ St w0 G0 (Ky A.2 (Ow 9 1 A.1 ((L.take A.1).map fun e => strV e.guid)) :: Ky t7 (Fd2 tb vb) :: Ky vb (EnS M) :: Ky t5 (Fd2 ta va) :: Ky va (EnS L) :: []) W') (fun A => L.length - A.1) (0, .slice none 0 0) (fun _ => rfl) rfl ⟨Nat.zero_le _, ⟨rfl⟩, h0⟩ ?_
    clear h0
    rintro next ⟨i, vm⟩ W1 hnext ⟨q1, om, h⟩
    simp only at q1 om h
    refine app2 ?_
    refine a_fld0 (h.load (x_lenS (h.osl (v := va)) (a_lss (ifd (fun hc => ?_) fun hc => ?_))))
    · have hi : i < L.length := by omega
      have ga : L[i]? = some L[i] := List.getElem?_eq_getElem hi
      generalize L[i] = e at ga
      obtain ⟨o1, o2, o3, o4⟩ := hok i e ga
      have hle := hlong e (List.mem_of_getElem? ga)
      have hle2 : e.guid.length ≤ 500 ∧ e.title.length ≤ 500 ∧ e.link.length ≤ 500 := by
        unfold longE at hle
        have := of_decide_eq_false hle
        omega
      obtain ⟨g1, g2, g3⟩ := hle2
      refine a_fld0 (h.load ?_)
      refine x_rcl entC_len (h.osl (v := va)) rfl ga ?_
      refine h.allocS fun t11 W h => ?_
      refine h.storeS (cs' := entC e) fun W h => ?_
      replace h : St w0 G0 (Ky t11 (EnB e) :: Ky vm (Ow 9 1 i ((L.take i).map fun e => strV e.guid)) :: Ky t7 (Fd2 tb vb) :: Ky vb (EnS M) :: Ky t5 (Fd2 ta va) :: Ky va (EnS L) :: []) W := h.to
      refine ⟨St w0 G0 (Ky t11 (EnB e) :: Ky vm (Ow 9 1 i ((L.take i).map fun e => strV e.guid)) :: Ky t7 (Fd2 tb vb) :: Ky vb (EnS M) :: Ky t5 (Fd2 ta va) :: Ky va (EnS L) :: []), h.drew, ?_⟩
      replace h := h.drew
      refine a_fld0 (ss_load (b := t11) (t := 34) (cs := entC e) (j := 1) (s_eqlL (b := []) (ifd_neg o1 ?_)))
      refine a_fld0 (ss_load (b := t11) (t := 34) (cs := entC e) (j := 0) (s_neq (ifd_neg (by rw [o2]; simp) ?_)))
      refine a_fld0 (ss_load (b := t11) (t := 34) (cs := entC e) (j := 4) (a_lss (ifd_neg (by have := o3.w; omega) ?_)))
      refine a_fld0 (ss_load (b := t11) (t := 34) (cs := entC e) (j := 1) (x_lens (a_gtr (ifd_neg (by omega) ?_))))
      refine a_fld0 (ss_load (b := t11) (t := 34) (cs := entC e) (j := 2) (x_lens (a_gtr (ifd_neg (by omega) ?_))))
      refine a_fld0 (ss_load (b := t11) (t := 34) (cs := entC e) (j := 3) (x_lens (a_gtr (ifd_neg (by omega) ?_))))
      refine a_fld0 (ss_load (b := t11) (t := 34) (cs := entC e) (j := 1) ?_)
      refine a_fld0 (ss_load (b := t11) (t := 34) (cs := entC e) (j := 1) ?_)
      refine ftrim_spec h (by omega) fun W h => ⟨h, ?_⟩
      rw [o3.g]
      refine s_neqL (ifd_neg (fun h => h rfl) ?_)
      refine a_fld0 (ss_load (b := t11) (t := 34) (cs := entC e) (j := 2) ?_)
      refine a_fld0 (ss_load (b := t11) (t := 34) (cs := entC e) (j := 2) ?_)
      refine ftrim_spec h (by omega) fun W h => ⟨h, ?_⟩
      rw [o3.t]
      refine s_neqL (ifd_neg (fun h => h rfl) ?_)
      refine a_fld0 (ss_load (b := t11) (t := 34) (cs := entC e) (j := 3) ?_)
      refine a_fld0 (ss_load (b := t11) (t := 34) (cs := entC e) (j := 3) ?_)
      refine ftrim_spec h (by omega) fun W h => ⟨h, ?_⟩
      rw [o3.l]
      refine s_neqL (ifd_neg (fun h => h rfl) ?_)
      refine a_fld0 (ss_load (b := t11) (t := 34) (cs := entC e) (j := 1) ?_)
      have hm : ((L.take i).map fun e => strV e.guid) = ((L.take i).map fun e => e.guid).map strV := by rw [List.map_map]; rfl
      have hml : ((L.take i).map fun e => e.guid).length = i := by rw [List.length_map, List.length_take]; omega
      have hsm := h.osl (v := vm)
      rw [hm] at hsm
      refine lhas_spec (a := (L.take i).map fun e => e.guid) (s := e.guid) (by rw [hml]; exact hsm) (by omega) ⟨h, ?_⟩
      refine ifd_neg (fun hin => ?_) ?_
      · obtain ⟨g, hg, hge⟩ := List.mem_map.1 hin
        obtain ⟨j, hj⟩ := List.getElem?_of_mem hg
        rw [List.getElem?_take] at hj
        split at hj
        · rename_i hji
          exact o4 j g hji hj hge
        · cases hj
      refine a_fld0 (h.load ?_)
      refine h.push (v := vm) (x := strV e.guid) (by unfold maxLen; omega) (by omega) fun vm2 W om2 h _ => ?_
      refine a_add64 (by omega) (by omega) ⟨rfl, rfl, rfl, ?_⟩
      rw [show ((i : Int) + 1) = ((i + 1 : Nat) : Int) by push_cast; rfl]
      have e2 : ((L.take i).map fun e => strV e.guid) ++ [strV e.guid] = (L.take (i + 1)).map fun e => strV e.guid := by
        rw [List.take_add_one, ga, List.map_append]; rfl
      rw [e2] at h
      exact hnext (i + 1, vm2) W (by simp only; omega) ⟨by simp only; omega, om2, h.to⟩
    · refine ffirst_spec hT h fun W h => ift ?_
      refine w_eql (ifd (fun he => ?_) fun he => ?_)
      · exact k W h.to
      · have hM := okb he
        obtain ⟨_, rfl⟩ := Prod.mk.inj hM
        refine a_fld0 (h.load (x_lenS (h.osl (v := vb)) (w_eql ?_)))
        show RR (.bool true) W
        exact k W h.to
  · refine ⟨St w0 G0 (Ky t7 (Fd2 tb vb) :: Ky vb (EnS M) :: Ky t5 (Fd2 ta va) :: Ky va (EnS L) :: []), h.drew, ?_⟩
    replace h := h.drew
    refine s_neq (ifd (fun he => ?_) fun he => ?_)
    · obtain ⟨e1, e2⟩ := Prod.mk.inj (herr he)
      refine a_fld0 (ss_load (b := t5) (t := 27) (cs := [strV ta, va]) (j := 0) (s_neqL (b := []) (ifd_neg (fun h => h e1) ?_)))
      refine a_fld0 (ss_load (b := t5) (t := 27) (cs := [strV ta, va]) (j := 1) ?_)
      refine x_lenSs (hEa h) (a_gtr (ifd_neg (by rw [e2]; decide) ?_))
      refine ss_loadS (b := t5) (t := 27) (cs := [strV ta, va]) ?_
      refine ss_loadS (b := t7) (t := 27) (cs := [strV tb, vb]) ?_
      refine ss_loadS (b := t5) (t := 27) (cs := [strV ta, va]) ?_
      refine ss_loadS (b := t7) (t := 27) (cs := [strV tb, vb]) ?_
      refine fdsame_spec (ta := ta) (tb := tb) (L := L) (M := M) (hEa h) (hEb h) hL6 (St.start _) fun W h' => ?_
      replace h := h.ext h'.low
      refine ⟨h, ?_⟩
      refine fplain_spec (hEa h) (St.start _) fun W h' => ?_
      replace h := h.ext h'.low
      refine ⟨h, ?_⟩
      refine fplain_spec (hEb h) (St.start _) fun W h' => ?_
      replace h := h.ext h'.low
      refine ⟨h, ?_⟩
      refine rdsame_spec (ta := ta) (tb := tb) (L := L) (M := M) (hEa h) (hEb h) hL6 (St.start _) fun W h' => ?_
      replace h := h.ext h'.low
      refine ⟨h, ?_⟩
      refine s_neb' ?_
      rw [beq_self_eq_true]
      refine iff' ?_
      refine a_fld0 (ss_load (b := t5) (t := 27) (cs := [strV ta, va]) (j := 1) ?_)
      refine x_lenSs (hEa h) (a_gtr (ifd_neg (by omega) ?_))
      exact ⟨rfl, h⟩
    · refine ss_loadS (b := t5) (t := 27) (cs := [strV ta, va]) ?_
      refine ss_loadS (b := t7) (t := 27) (cs := [strV tb, vb]) ?_
      refine ss_loadS (b := t5) (t := 27) (cs := [strV ta, va]) ?_
      refine ss_loadS (b := t7) (t := 27) (cs := [strV tb, vb]) ?_
      refine fdsame_spec (ta := ta) (tb := tb) (L := L) (M := M) (hEa h) (hEb h) hL6 (St.start _) fun W h' => ?_
      replace h := h.ext h'.low
      refine ⟨h, ?_⟩
      refine fplain_spec (hEa h) (St.start _) fun W h' => ?_
      replace h := h.ext h'.low
      refine ⟨h, ?_⟩
      refine fplain_spec (hEb h) (St.start _) fun W h' => ?_
      replace h := h.ext h'.low
      refine ⟨h, ?_⟩
      refine rdsame_spec (ta := ta) (tb := tb) (L := L) (M := M) (hEa h) (hEb h) hL6 (St.start _) fun W h' => ?_
      replace h := h.ext h'.low
      refine ⟨h, ?_⟩
      refine s_neb' ?_
      rw [beq_self_eq_true]
      refine iff' ?_
      refine a_fld0 (ss_load (b := t5) (t := 27) (cs := [strV ta, va]) (j := 1) ?_)
      refine x_lenSs (hEa h) (a_gtr (ifd_neg (by omega) ?_))
      exact ⟨rfl, h⟩
end
end Go.Proofs.YtlflpbflpcmckaaGreatDoor
namespace Go.Ez
open Go Go.Proofs Go.RowKit Go.ChangeShapes Go.WideShapes
set_option linter.unusedSimpArgs false
set_option linter.unusedVariables false
section
variable {H : Type} {enc : TypeId × Value → H} {P : Program}
theorem sl_of_trod {α : Type} {W : World} {b0 base sz : Nat} {r : Reach} {sp : Nat → Bool} {held : Bool} {t e : TypeId} (encA : α → List Value) (Q : α → Prop) (hsz : ∀ a, (encA a).length = sz) (ht : P.underlying t = some (.slice e)) (hc : P.cellsOf e = sz)
    (hel : ∀ (fuel : Nat) (cs : List Value) (x : DataW H × List MemPlace), DataW.trod enc P W base sp held fuel e cs = some x → ∃ a, cs = encA a ∧ Q a) {v : Value} {d : DataW H} {ps : List MemPlace}
    (hval : Value.okWide P W r b0 t v) (hd : DataW.Trod enc P W base sp held t v d ps) (hpos : 0 < sz) : ∃ ys : List α, Sl W sz v ys.length (ys.flatMap encA) ∧ ys.length ≤ maxLen ∧ ∀ a ∈ ys, Q a := by
  obtain ⟨a0, len, cap, rfl⟩ := okWide_slice ht hval
  obtain ⟨fuel, hf⟩ := hd
  have hcs : (Value.slice a0 len cap).cells.toList = [.slice a0 len cap] := by simp [Value.cells]
  rw [hcs] at hf
  rcases Go.Deep.open_slice ht hf with ⟨hcs, hx⟩ | ⟨a, len', cap', m, n, D, Pl, hcs, _, hl, hm, hmm, hx, hcell⟩
  · simp only [List.cons.injEq, and_true] at hcs
    rw [hcs]
    exact ⟨[], Sl.nil W sz, by simp, by simp⟩
  · simp only [List.cons.injEq, and_true, Value.slice.injEq] at hcs
    obtain ⟨rfl, rfl, rfl⟩ := hcs
    have hlm : len ≤ m := by rw [hmm]; split <;> omega
    have hV : ∀ i, i < len → ∃ x : α, W.cells? base (a.add (i * P.cellsOf e)) (P.cellsOf e) = some (encA x) ∧ Q x := fun i hi => by
      obtain ⟨cs', h1, h2⟩ := hcell i (by omega)
      obtain ⟨x, rfl, hq⟩ := hel _ _ _ h2
      exact ⟨x, h1, hq⟩
    have hex : ∀ k, k ≤ len → ∃ ys : List α, ys.length = k ∧ ∀ i x, ys[i]? = some x → W.cells? base (a.add (i * P.cellsOf e)) (P.cellsOf e) = some (encA x) ∧ Q x := by
      intro k
      induction k with
      | zero => intro _; exact ⟨[], rfl, fun i x h => by simp at h⟩
      | succ k ih =>
        intro hk
        obtain ⟨ys, h1, h2⟩ := ih (by omega)
        obtain ⟨x, hx⟩ := hV k (by omega)
        refine ⟨ys ++ [x], by simp [h1], fun i y hy => ?_⟩
        rcases getElem?_snoc hy with ⟨_, hy⟩ | ⟨hi, rfl⟩
        · exact h2 i y hy
        · subst hi; rw [h1]; exact hx
    obtain ⟨ys, h1, h2⟩ := hex len (Nat.le_refl _)
    subst h1
    have hlen : ∀ (ys : List α), (ys.flatMap encA).length = ys.length * sz := by
      intro ys
      induction ys with
      | nil => simp
      | cons x ys ih => rw [List.flatMap_cons, List.length_append, hsz, ih, List.length_cons, Nat.succ_mul, Nat.add_comm]
    have hget : ∀ (ys : List α) (j : Nat) (u : Value), (ys.flatMap encA)[j]? = some u → ∃ i x q, ys[i]? = some x ∧ (encA x)[q]? = some u ∧ j = i * sz + q ∧ q < sz := by
      intro ys
      induction ys with
      | nil => intro j u h; simp at h
      | cons x ys ih =>
        intro j u h
        rw [List.flatMap_cons] at h
        rcases Nat.lt_or_ge j sz with hj | hj
        · rw [List.getElem?_append_left (by rw [hsz]; exact hj)] at h
          exact ⟨0, x, j, rfl, h, by omega, hj⟩
        · rw [List.getElem?_append_right (by rw [hsz]; exact hj), hsz] at h
          obtain ⟨i, y, q, e1, e2, e3, e4⟩ := ih _ _ h
          exact ⟨i + 1, y, q, by simpa using e1, e2, by rw [Nat.succ_mul]; omega, e4⟩
    refine ⟨ys, ⟨some a, cap, rfl, hl, hlen ys, fun j u hj => ?_, by simp⟩, by omega, fun x hx => ?_⟩
    · obtain ⟨i, x, q, e1, e2, rfl, e4⟩ := hget ys j u hj
      have hc1 := (h2 i x e1).1
      rw [hc] at hc1
      obtain ⟨_, hl2, hcl⟩ := World.cells?_some hc1
      have h0 := hcl q (by omega)
      have hil := (List.getElem?_eq_some_iff.1 e1).1
      have hspot : a.spot = none := by
        obtain ⟨y0, hy0⟩ : ∃ y0, ys[0]? = some y0 := ⟨_, List.getElem?_eq_getElem (by omega)⟩
        have hc0 := (h2 0 y0 hy0).1
        rw [hc] at hc0
        have g0 := (World.cells?_some hc0).2.2 0 hpos
        have ha0 : (a.add (0 * sz)).add 0 = a := by simp [Addr.add]
        rw [ha0, List.getElem?_eq_getElem (by rw [hsz]; exact hpos)] at g0
        unfold World.cell? at g0
        split at g0
        · cases hs : a.spot with
          | none => rfl
          | some _ => rw [hs] at g0; simp at g0
        · cases g0
      obtain ⟨bb, oo, ss⟩ := a
      simp only at hspot
      subst hspot
      rw [addr_add, addr_add] at h0
      refine ⟨bb, oo, rfl, ?_⟩
      rw [← Nat.add_assoc, h0, e2]
    · obtain ⟨i, hi, he⟩ := List.getElem_of_mem hx
      exact (h2 i x (by rw [List.getElem?_eq_getElem hi, he])).2
/-- texts -/
theorem strs_of_trod {W : World} {b0 base : Nat} {r : Reach} {sp : Nat → Bool} {held : Bool} {t e : TypeId} (ht : P.underlying t = some (.slice e)) (he : P.underlying e = some .string) (hc : P.cellsOf e = 1) {v : Value} {d : DataW H} {ps : List MemPlace}
    (hval : Value.okWide P W r b0 t v) (hd : DataW.Trod enc P W base sp held t v d ps) : ∃ ls : List Txt, Sl W 1 v ls.length (ls.map Enc.enc) ∧ ls.length ≤ maxLen ∧ ∀ l ∈ ls, l.length ≤ maxLen := by
  obtain ⟨ys, h1, h2, h3⟩ := sl_of_trod (enc := enc) (fun s : Txt => [Enc.enc s]) (fun s => s.length ≤ maxLen) (fun _ => rfl) ht hc (fun fuel cs x h => by
    obtain ⟨s, hs, _, hm⟩ := DataW.trod_string he h
    refine ⟨s.data.toList, ?_, hm⟩
    rw [hs]; rfl) hval hd (by decide)
  exact ⟨ys, by rw [List.map_eq_flatMap]; exact h1, h2, h3⟩
end
end Go.Ez
namespace Go.Ez
open Go Go.Proofs Go.RowKit Go.Lib
set_option linter.unusedSimpArgs false
set_option linter.unusedVariables false
theorem decodeN_prefix {n b0 b1 b2 b3 n' c0 c1 c2 c3 : Nat} (hg : ¬ ((decodeN n b0 b1 b2 b3).1 = 65533 ∧ (decodeN n b0 b1 b2 b3).2 = 1)) (hn : (decodeN n b0 b1 b2 b3).2 ≤ n')
    (h0 : c0 = b0) (h1 : 1 < (decodeN n b0 b1 b2 b3).2 → c1 = b1) (h2 : 2 < (decodeN n b0 b1 b2 b3).2 → c2 = b2) (h3 : 3 < (decodeN n b0 b1 b2 b3).2 → c3 = b3) : decodeN n' c0 c1 c2 c3 = decodeN n b0 b1 b2 b3 := by
  subst h0
  unfold decodeN at *
  by_cases e1 : c0 < 128
  · simp only [e1, if_true]
  · simp only [e1, if_false] at *
    by_cases e2 : c0 / 32 = 6 ∧ (1 < n ∧ b1 / 64 = 2)
    · rw [if_pos e2] at *
      split at hg
      · rename_i h5
        rw [if_pos h5] at h1 hn ⊢
        have := h1 (by simp)
        subst this
        rw [if_pos ⟨e2.1, by simp only at hn; omega, e2.2.2⟩, if_pos h5]
      · exact absurd ⟨rfl, rfl⟩ hg
    · rw [if_neg e2] at *
      by_cases e3 : c0 / 16 = 14 ∧ (1 < n ∧ b1 / 64 = 2) ∧ (2 < n ∧ b2 / 64 = 2)
      · rw [if_pos e3] at *
        split at hg
        · rename_i h5
          rw [if_pos h5] at h1 h2 hn ⊢
          have := h1 (by simp)
          have := h2 (by simp)
          subst c1 c2
          simp only at hn
          rw [if_neg (by omega), if_pos ⟨e3.1, ⟨by omega, e3.2.1.2⟩, by omega, e3.2.2.2⟩, if_pos h5]
        · exact absurd ⟨rfl, rfl⟩ hg
      · rw [if_neg e3] at *
        by_cases e4 : c0 / 8 = 30 ∧ (1 < n ∧ b1 / 64 = 2) ∧ (2 < n ∧ b2 / 64 = 2) ∧ (3 < n ∧ b3 / 64 = 2)
        · rw [if_pos e4] at *
          split at hg
          · rename_i h5
            rw [if_pos h5] at h1 h2 h3 hn ⊢
            have := h1 (by simp)
            have := h2 (by simp)
            have := h3 (by simp)
            subst c1 c2 c3
            simp only at hn
            rw [if_neg (by omega), if_neg (by omega), if_pos ⟨e4.1, ⟨by omega, e4.2.1.2⟩, ⟨by omega, e4.2.2.1.2⟩, by omega, e4.2.2.2.2⟩, if_pos h5]
          · exact absurd ⟨rfl, rfl⟩ hg
        · rw [if_neg e4] at *
          exact absurd ⟨rfl, rfl⟩ hg
theorem decode_prefix {l r : Txt} (hne : l ≠ []) (hg : ¬ badL l) : decodeL (l.take (decodeL l).2 ++ r) = decodeL l := by
  obtain ⟨f1, f2, _, _⟩ := dec_facts l hne
  have hw := f1 hg
  have hget : ∀ j, j < (decodeL l).2 → (l.take (decodeL l).2 ++ r).getD j 0 = l.getD j 0 := fun j hj => by
    rw [List.getD_eq_getElem?_getD, List.getD_eq_getElem?_getD, List.getElem?_append_left (by rw [List.length_take]; omega), List.getElem?_take_of_lt hj]
  rw [decodeL_N, decodeL_N l] at *
  unfold badL at hg
  rw [decodeL_N] at hg
  refine decodeN_prefix hg ?_ ?_ ?_ ?_ ?_
  · rw [List.length_append, List.length_take]; omega
  · rw [hget 0 (by omega)]
  · intro h; rw [hget 1 h]
  · intro h; rw [hget 2 h]
  · intro h; rw [hget 3 h]
end Go.Ez
namespace Go.Proofs.YtlflpbflpcmckaaGreatDoor
open Go Go.Ez Go.RowKit Go.Lib
set_option linter.unusedSimpArgs false
set_option linter.unusedVariables false
section
variable {w0 W W' : World} {l R : List As} {RR : Value → World → Prop} {t s : Txt} {c : UInt8} {b n : Nat} {v : Value}
/-- UTF-8, without signs below 32 but blanks -/
def cleanS (s : Txt) : Bool := s.all (fun c => decide (32 ≤ c.toNat) || XRd.isBl c) && validD s
/-- a byte, escaped -/
def escB (c : UInt8) : Txt := if c = 60 then [38, 108, 116, 59] else if c = 62 then [38, 103, 116, 59] else if c = 38 then [38, 97, 109, 112, 59] else if c = 34 then [38, 113, 117, 111, 116, 59] else [c]
def escS (s : Txt) : Txt := s.flatMap escB
theorem escS_app (a b : Txt) : escS (a ++ b) = escS a ++ escS b := by simp [escS]
theorem escB_len (c : UInt8) : 1 ≤ (escB c).length ∧ (escB c).length ≤ 6 := by unfold escB; (repeat' split) <;> simp
theorem escS_len : ∀ s : Txt, s.length ≤ (escS s).length ∧ (escS s).length ≤ 6 * s.length
  | [] => ⟨Nat.le_refl _, Nat.le_refl _⟩
  | c :: s => by
    have h1 := escS_len s
    have h2 := escB_len c
    have : escS (c :: s) = escB c ++ escS s := rfl
    rw [this, List.length_append, List.length_cons]
    omega
end
end Go.Proofs.YtlflpbflpcmckaaGreatDoor
namespace Go.Proofs.YtlflpbflpcmckaaGreatDoor
open Go Go.Ez Go.RowKit Go.Lib
set_option linter.unusedSimpArgs false
set_option linter.unusedVariables false
/-- a reader that stands behind p, ahead of t -/
def Mr (p t : Txt) (out : List XTk) (op : List XFr) (run : Txt) : XRd := ⟨p ++ t, p.length, 0, out, op, run⟩
section
variable {p t x : Txt} {out : List XTk} {op : List XFr} {run : Txt} {c d : UInt8} {n : Txt × Txt}
theorem Mr.rest : (Mr p t out op run).rest = t := by
  unfold Mr XRd.rest
  exact List.drop_left
theorem Mr.on : (Mr p (x ++ t) out op run).on x.length = Mr (p ++ x) t out op run := by
  unfold Mr XRd.on
  simp [List.append_assoc]
theorem Mr.on1 : (Mr p (c :: t) out op run).on 1 = Mr (p ++ [c]) t out op run := Mr.on (x := [c])
theorem Mr.at : (Mr p (c :: t) out op run).s[(Mr p (c :: t) out op run).at_]? = some c := by
  show (p ++ c :: t)[p.length]? = _
  rw [List.getElem?_append_right (Nat.le_refl _), Nat.sub_self]; rfl
theorem Mr.see0 : (Mr p (c :: t) out op run).see 0 = (c, Mr p (c :: t) out op run) := XRd.see_some Mr.at
theorem Mr.see1 : (Mr p (c :: d :: t) out op run).see 1 = (d, Mr p (c :: d :: t) out op run) := by
  refine XRd.see_some ?_
  show (p ++ c :: d :: t)[p.length + 1]? = _
  rw [List.getElem?_append_right (by omega), Nat.add_sub_cancel_left]; rfl
theorem Mr.wants : ∀ {x p : Txt}, XRd.wants x (Mr p (x ++ t) out op run) = Mr (p ++ x) t out op run
  | [], p => by rw [List.append_nil]; rfl
  | c :: x, p => by
    unfold XRd.wants
    rw [if_pos (show (Mr p (c :: x ++ t) out op run).e = 0 from rfl)]
    rw [List.cons_append, Mr.see0]
    dsimp only
    rw [decide_eq_false (by simp)]
    show XRd.wants x ((Mr p (c :: (x ++ t)) out op run).on 1) = _
    rw [Mr.on1, Mr.wants (x := x), List.append_assoc]; rfl
/-- no sign of a kind at the front -/
def Stops (f : UInt8 → Bool) (t : Txt) : Prop := ∀ c r, t = c :: r → f c = false
theorem Stops.cons {f : UInt8 → Bool} (h : f c = false) : Stops f (c :: t) := fun _ _ e => by cases e; exact h
theorem Stops.nil {f : UInt8 → Bool} : Stops f [] := fun _ _ e => by cases e
theorem tw_all {f : UInt8 → Bool} (hx : ∀ c ∈ x, f c = true) (ht : Stops f t) : (x ++ t).takeWhile f = x := by
  induction x with
  | nil =>
    cases t with
    | nil => rfl
    | cons c r => rw [List.nil_append, List.takeWhile_cons, ht c r rfl]; rfl
  | cons c x ih =>
    rw [List.cons_append, List.takeWhile_cons, hx c (by simp)]
    simp [ih fun d hd => hx d (by simp [hd])]
theorem Mr.blanks (hx : ∀ c ∈ x, XRd.isBl c = true) (ht : Stops XRd.isBl t) : (Mr p (x ++ t) out op run).blanks = (decide (0 < x.length), Mr (p ++ x) t out op run) := by
  unfold XRd.blanks
  rw [Mr.rest, tw_all hx ht, Mr.on]
theorem Mr.blanks0 (ht : Stops XRd.isBl t) : (Mr p t out op run).blanks = (false, Mr p t out op run) := by
  have := Mr.blanks (p := p) (x := []) (out := out) (op := op) (run := run) (by simp) ht
  rw [List.nil_append, List.append_nil] at this
  exact this
/-- a name without a prefix -/
structure NmOk (x : Txt) : Prop where
  head : ∃ c r, x = c :: r ∧ XRd.begs c = true
  all : ∀ c ∈ x, XRd.goes c = true
theorem Mr.name (hx : NmOk x) (ht : Stops XRd.goes t) : (Mr p (x ++ t) out op run).nameOf = (x, Mr (p ++ x) t out op run) := by
  obtain ⟨⟨c, r, rfl, hc⟩, ha⟩ := hx
  unfold XRd.nameOf
  dsimp only
  rw [Mr.rest, tw_all ha ht, List.cons_append, Mr.see0]
  dsimp only
  rw [hc, Bool.not_true, Bool.and_false]
  show (_, (Mr p (c :: r ++ t) out op run).on (c :: r).length) = _
  rw [Mr.on]
/-- a name as it is written -/
def nmT (n : Txt × Txt) : Txt := if n.1 = [] then n.2 else n.1 ++ 58 :: n.2
structure NOk (n : Txt × Txt) : Prop where
  pre : n.1 = [] ∨ NmOk n.1
  name : NmOk n.2
theorem goes58 : XRd.goes 58 = false := by decide
theorem Mr.full (hn : NOk n) (ht : Stops XRd.goes t) (h58 : Stops (fun c => c == 58) t) : (Mr p (nmT n ++ t) out op run).full = (n, Mr (p ++ nmT n) t out op run) := by
  unfold XRd.full nmT
  obtain ⟨a, b⟩ := n
  dsimp only
  by_cases ha : a = []
  · subst ha
    rw [if_pos rfl, Mr.name hn.name ht]
    dsimp only
    rw [if_pos]
    refine .inr fun e => ?_
    cases t with
    | nil =>
      have : (Mr (p ++ b) [] out op run).s[(Mr (p ++ b) [] out op run).at_]? = none := List.getElem?_eq_none (by show (p ++ b ++ []).length ≤ (p ++ b).length; simp)
      rw [this] at e; cases e
    | cons c r =>
      rw [Mr.at] at e
      cases e
      have := h58 58 r rfl
      cases this
  · rw [if_neg ha, List.append_assoc, List.cons_append, Mr.name (hn.pre.resolve_left ha) (.cons goes58)]
    dsimp only
    rw [if_neg, Mr.on1, Mr.name hn.name ht]
    · dsimp only
      rw [show p ++ a ++ [58] ++ b = p ++ (a ++ 58 :: b) by simp]
    · rintro (e | e)
      · exact e rfl
      · exact e Mr.at
theorem ref_hit {rest : Txt} {l : List (Txt × Txt)} {b : Bool} {n : Txt × Txt} {r : XRd} (h : XRd.isPre n.1 rest = true) : XRd.refGo rest (n :: l) b r = (n.2, r.on n.1.length) := by
  conv => lhs; unfold XRd.refGo
  rw [h]; rfl
theorem Mr.part_lt : XRd.part decX signS (Mr p (38 :: 108 :: 116 :: 59 :: t) out op run) = ([60], Mr (p ++ [38, 108, 116, 59]) t out op run) := by
  unfold XRd.part
  rw [Mr.see0]
  dsimp only
  rw [if_pos rfl, Mr.on1]
  unfold XRd.reference
  rw [Mr.rest, if_neg (by simp [XRd.isPre])]
  unfold XRd.refNames
  rw [ref_hit (by simp [XRd.isPre])]
  refine Prod.ext rfl ?_
  dsimp only
  rw [show p ++ [38, 108, 116, 59] = p ++ [38] ++ [108, 116, 59] by simp]
  exact Mr.on (x := [108, 116, 59])
theorem Mr.part_gt : XRd.part decX signS (Mr p (38 :: 103 :: 116 :: 59 :: t) out op run) = ([62], Mr (p ++ [38, 103, 116, 59]) t out op run) := by
  unfold XRd.part
  rw [Mr.see0]
  dsimp only
  rw [if_pos rfl, Mr.on1]
  unfold XRd.reference
  rw [Mr.rest, if_neg (by simp [XRd.isPre])]
  unfold XRd.refNames
  rw [ref_short (by simp [XRd.isPre])]
  rw [ref_hit (by simp [XRd.isPre])]
  refine Prod.ext rfl ?_
  dsimp only
  rw [show p ++ [38, 103, 116, 59] = p ++ [38] ++ [103, 116, 59] by simp]
  exact Mr.on (x := [103, 116, 59])
theorem Mr.part_amp : XRd.part decX signS (Mr p (38 :: 97 :: 109 :: 112 :: 59 :: t) out op run) = ([38], Mr (p ++ [38, 97, 109, 112, 59]) t out op run) := by
  unfold XRd.part
  rw [Mr.see0]
  dsimp only
  rw [if_pos rfl, Mr.on1]
  unfold XRd.reference
  rw [Mr.rest, if_neg (by simp [XRd.isPre])]
  unfold XRd.refNames
  rw [ref_short (by simp [XRd.isPre]), ref_short (by simp [XRd.isPre])]
  rw [ref_hit (by simp [XRd.isPre])]
  refine Prod.ext rfl ?_
  dsimp only
  rw [show p ++ [38, 97, 109, 112, 59] = p ++ [38] ++ [97, 109, 112, 59] by simp]
  exact Mr.on (x := [97, 109, 112, 59])
theorem Mr.part_quot : XRd.part decX signS (Mr p (38 :: 113 :: 117 :: 111 :: 116 :: 59 :: t) out op run) = ([34], Mr (p ++ [38, 113, 117, 111, 116, 59]) t out op run) := by
  unfold XRd.part
  rw [Mr.see0]
  dsimp only
  rw [if_pos rfl, Mr.on1]
  unfold XRd.reference
  rw [Mr.rest, if_neg (by simp [XRd.isPre])]
  unfold XRd.refNames
  rw [ref_short (by simp [XRd.isPre]), ref_short (by simp [XRd.isPre]), ref_short (by simp [XRd.isPre])]
  rw [ref_hit (by simp [XRd.isPre])]
  refine Prod.ext rfl ?_
  dsimp only
  rw [show p ++ [38, 113, 117, 111, 116, 59] = p ++ [38] ++ [113, 117, 111, 116, 59] by simp]
  exact Mr.on (x := [113, 117, 111, 116, 59])
theorem Mr.sign (hx : x ≠ []) (hd : decX (x ++ t) = ((decX (x ++ t)).1, x.length)) (hg : XRd.good (decX (x ++ t)).1 = true) (hb : ¬ ((decX (x ++ t)).1 = 65533 ∧ x.length < 2)) : (Mr p (x ++ t) out op run).sign decX = (x, Mr (p ++ x) t out op run) := by
  have h2 : (decX (x ++ t)).2 = x.length := by rw [hd]
  obtain ⟨c, r, rfl⟩ : ∃ c r, x = c :: r := by
    cases x with
    | nil => exact absurd rfl hx
    | cons c r => exact ⟨c, r, rfl⟩
  unfold XRd.sign
  rw [List.cons_append, Mr.see0]
  dsimp only
  rw [if_neg (fun h => h rfl), Mr.rest, ← List.cons_append, h2, if_neg (by rintro (a | a); rw [hg] at a; cases a; exact hb a), Mr.on, List.take_left]
/-- what a text's first sign is, and what is read of it -/
theorem esc_step {s : Txt} (hne : s ≠ []) (hc : cleanS s = true) : ∃ x s', s = x ++ s' ∧ x ≠ [] ∧ cleanS s' = true ∧
    (∀ (p t : Txt) (out : List XTk) (op : List XFr) (run : Txt), XRd.part decX signS (Mr p (escS s ++ t) out op run) = (x, Mr (p ++ escS x) (escS s' ++ t) out op run)) ∧
    (∀ (p t : Txt) (out : List XTk) (op : List XFr) (run : Txt), (Mr p (s ++ t) out op run).sign decX = (x, Mr (p ++ x) (s' ++ t) out op run)) ∧
    ∃ c r, escS s = c :: r ∧ c ≠ 34 ∧ c ≠ 60 := by
  unfold cleanS at hc
  rw [Bool.and_eq_true] at hc
  obtain ⟨hall, hv⟩ := hc
  obtain ⟨hg, hv'⟩ := valid_next hne hv
  have hdp : ∀ r, decodeL (s.take (decodeL s).2 ++ r) = decodeL s := fun r => decode_prefix hne hg
  have hst : s = s.take (decodeL s).2 ++ s.drop (decodeL s).2 := (List.take_append_drop _ _).symm
  have hcl' : cleanS (s.drop (decodeL s).2) = true := by
    unfold cleanS
    rw [Bool.and_eq_true]
    exact ⟨List.all_eq_true.2 fun c hc => List.all_eq_true.1 hall c (List.mem_of_mem_drop hc), hv'⟩
  rcases sign_cases hne hg with ⟨c, r, hcr, hlow, hd⟩ | ⟨g1, g2, g3, g4, g5, g6, g7⟩
  · subst hcr
    rw [hd] at hcl' hdp
    simp only [List.take_succ_cons, List.take_zero, List.drop_succ_cons, List.drop_zero] at hcl' hdp
    have hok := List.all_eq_true.1 hall c (by simp)
    have hgood : XRd.good (c.toNat : Int) = true := by
      unfold XRd.good
      refine decide_eq_true ?_
      rw [Bool.or_eq_true, decide_eq_true_eq] at hok
      rcases hok with h | h
      · left; omega
      · unfold XRd.isBl at h
        simp only [Bool.or_eq_true, beq_iff_eq] at h
        rcases h with ((h | h) | h) | h <;> subst h <;> decide
    have hsg : ∀ (p t : Txt) (out : List XTk) (op : List XFr) (run : Txt), (Mr p ([c] ++ t) out op run).sign decX = ([c], Mr (p ++ [c]) t out op run) := fun p t out op run => by
      have hdd : decX ([c] ++ t) = ((c.toNat : Int), 1) := by
        unfold decX
        rw [show [c] ++ t = c :: t from rfl, dec_ascii hlow]
      refine Mr.sign (by simp) (by rw [hdd]; rfl) (by rw [hdd]; exact hgood) (by rw [hdd]; rintro ⟨a, _⟩; simp only at a; omega)
    refine ⟨[c], r, rfl, by simp, hcl', fun p t out op run => ?_, fun p t out op run => hsg p (r ++ t) out op run, ?_⟩
    · have e : escS (c :: r) = escB c ++ escS r := rfl
      have e1 : escS [c] = escB c := by simp [escS]
      rw [e, e1, List.append_assoc]
      generalize escS r ++ t = u
      unfold escB
      split
      · rename_i h; subst h; exact Mr.part_lt
      · split
        · rename_i h; subst h; exact Mr.part_gt
        · split
          · rename_i h; subst h; exact Mr.part_amp
          · rename_i h38
            split
            · rename_i h; subst h; exact Mr.part_quot
            · unfold XRd.part
              rw [show [c] ++ u = c :: u from rfl, Mr.see0]
              dsimp only
              rw [if_neg h38]
              exact hsg p u out op run
    · have e : escS (c :: r) = escB c ++ escS r := rfl
      rw [e]
      unfold escB
      split
      · exact ⟨38, _, rfl, by decide, by decide⟩
      · rename_i h60
        split
        · exact ⟨38, _, rfl, by decide, by decide⟩
        · split
          · exact ⟨38, _, rfl, by decide, by decide⟩
          · split
            · exact ⟨38, _, rfl, by decide, by decide⟩
            · rename_i h34
              exact ⟨c, _, rfl, h34, h60⟩
  · generalize hn : (decodeL s).2 = n at *
    have hxl : (s.take n).length = n := by rw [List.length_take]; omega
    have hesc : ∀ y : Txt, (∀ b ∈ y, 128 ≤ b.toNat) → escS y = y := by
      intro y
      induction y with
      | nil => intro _; rfl
      | cons b y ih =>
        intro hy
        have hb := hy b (by simp)
        have e : escS (b :: y) = escB b ++ escS y := rfl
        rw [e, ih fun d hd => hy d (by simp [hd])]
        unfold escB
        rw [if_neg (fun h => by subst h; revert hb; decide), if_neg (fun h => by subst h; revert hb; decide), if_neg (fun h => by subst h; revert hb; decide), if_neg (fun h => by subst h; revert hb; decide)]
        rfl
    obtain ⟨b0, y, hby⟩ : ∃ b y, s.take n = b :: y := by
      cases hx : s.take n with
      | nil => rw [hx] at hxl; simp at hxl; omega
      | cons b y => exact ⟨b, y, rfl⟩
    have hb0 : 128 ≤ b0.toNat := g6 b0 (by rw [hby]; simp)
    have hsg : ∀ (p t : Txt) (out : List XTk) (op : List XFr) (run : Txt), (Mr p (s.take n ++ t) out op run).sign decX = (s.take n, Mr (p ++ s.take n) t out op run) := fun p t out op run => by
      have hdd : decX (s.take n ++ t) = (((decodeL s).1 : Int), n) := by
        unfold decX
        rw [hdp, hn]
      refine Mr.sign (by rw [hby]; simp) (by rw [hdd, hxl]) (by rw [hdd]; unfold XRd.good; exact decide_eq_true (by left; simp only; omega)) (by rw [hxl]; omega)
    refine ⟨s.take n, s.drop n, hst, by rw [hby]; simp, hcl', fun p t out op run => ?_, fun p t out op run => ?_, ?_⟩
    · have e : escS s = s.take n ++ escS (s.drop n) := by
        conv => lhs; rw [hst]
        rw [escS_app, hesc _ g6]
      rw [e, hesc _ g6, List.append_assoc]
      generalize escS (s.drop n) ++ t = u
      unfold XRd.part
      have hs0 : (Mr p (s.take n ++ u) out op run).see 0 = (b0, Mr p (s.take n ++ u) out op run) := by
        rw [hby, List.cons_append]; exact Mr.see0
      rw [hs0]
      dsimp only
      rw [if_neg (fun h => by subst h; revert hb0; decide)]
      exact hsg p u out op run
    · conv => lhs; rw [hst]
      rw [List.append_assoc]
      exact hsg p (s.drop n ++ t) out op run
    · have e : escS s = s.take n ++ escS (s.drop n) := by
        conv => lhs; rw [hst]
        rw [escS_app, hesc _ g6]
      rw [e, hby, List.cons_append]
      exact ⟨b0, _, rfl, fun h => by subst h; revert hb0; decide, fun h => by subst h; revert hb0; decide⟩
end
end Go.Proofs.YtlflpbflpcmckaaGreatDoor
namespace Go.Proofs.YtlflpbflpcmckaaGreatDoor
open Go Go.Ez Go.RowKit Go.Lib
set_option linter.unusedSimpArgs false
set_option linter.unusedVariables false
section
variable {p t x : Txt} {out : List XTk} {op : List XFr} {run : Txt} {c d : UInt8} {n : Txt × Txt}
theorem Mr.valGo : ∀ (k : Nat) {s b p : Txt} {f : Nat}, s.length ≤ k → cleanS s = true → s.length < f → b.length + s.length ≤ 8000 → XRd.valGo decX signS 34 f b (Mr p (escS s ++ 34 :: t) out op run) = (b ++ s, Mr (p ++ (escS s ++ [34])) t out op run)
  | k, s, b, p, f, hk, hc, hf, hb => by
    obtain ⟨f, rfl⟩ : ∃ g, f = g + 1 := ⟨f - 1, by omega⟩
    unfold XRd.valGo
    rw [if_neg (fun h => h rfl)]
    by_cases hs : s = []
    · subst hs
      rw [show escS [] ++ 34 :: t = 34 :: t from rfl, Mr.see0]
      dsimp only
      rw [if_neg (fun h => h rfl), if_pos rfl, Mr.on1, decide_eq_false (by simp at hb; omega), List.append_nil]
      rfl
    · obtain ⟨x, s', hxs, hx, hc', hpart, _, c, r, he, h34, h60⟩ := esc_step hs hc
      have hsee : (Mr p (escS s ++ 34 :: t) out op run).see 0 = (c, Mr p (escS s ++ 34 :: t) out op run) := by rw [he, List.cons_append]; exact Mr.see0
      have hxl := List.length_pos_iff.2 hx
      have hlen : s.length = x.length + s'.length := by rw [hxs, List.length_append]
      rw [hsee]
      dsimp only
      rw [if_neg (fun h => h rfl), if_neg h34, if_neg h60, hpart]
      dsimp only
      cases k with
      | zero => omega
      | succ k =>
        rw [Mr.valGo k (by omega) hc' (by omega) (by rw [List.length_append]; omega)]
        have e1 : escS s = escS x ++ escS s' := by rw [hxs, escS_app]
        rw [e1, hxs]
        simp [List.append_assoc]
theorem Mr.value {v : Txt} (hc : cleanS v = true) (hv : v.length ≤ 8000) : XRd.value decX signS (Mr p (34 :: (escS v ++ 34 :: t)) out op run) = (v, Mr (p ++ 34 :: (escS v ++ [34])) t out op run) := by
  unfold XRd.value
  rw [Mr.see0]
  dsimp only
  rw [decide_eq_false (by simp)]
  have hl := (escS_len v).1
  show XRd.valGo decX signS 34 _ [] ((Mr p (34 :: (escS v ++ 34 :: t)) out op run).on 1) = _
  rw [Mr.on1, Mr.valGo v.length (Nat.le_refl _) hc (by show v.length < (p ++ 34 :: (escS v ++ 34 :: t)).length + 3; simp; omega) (by simpa using hv)]
  simp [List.append_assoc]
/-- an attribute az it is written -/
def attT (a : (Txt × Txt) × Txt) : Txt := nmT a.1 ++ 61 :: 34 :: (escS a.2 ++ [34])
def attsT (az : List ((Txt × Txt) × Txt)) : Txt := az.flatMap fun a => 32 :: attT a
def prOf (a : (Txt × Txt) × Txt) : XPr := ⟨a.1.1, a.1.2, a.2⟩
structure AOk (a : (Txt × Txt) × Txt) : Prop where
  name : NOk a.1
  clean : cleanS a.2 = true
  len : a.2.length ≤ 8000
def dupB (l : List XPr) (a : (Txt × Txt) × Txt) : Bool := l.any fun p => decide (p.pre = a.1.1 ∧ p.name = a.1.2)
theorem stops61 : Stops XRd.goes (61 :: t) := .cons (by decide)
theorem Mr.attr {a : (Txt × Txt) × Txt} {l : List XPr} (ha : AOk a) (hd : dupB l a = false) : XRd.attr decX signS l (Mr p (attT a ++ t) out op run) = (prOf a, Mr (p ++ attT a) t out op run) := by
  have e : attT a ++ t = nmT a.1 ++ 61 :: 34 :: (escS a.2 ++ 34 :: t) := by unfold attT; simp [List.append_assoc]
  unfold XRd.attr
  rw [e, Mr.full ha.name stops61 (.cons (by decide))]
  dsimp only
  unfold dupB at hd
  rw [hd, Bool.and_false, show ∀ q : XRd, q.failIf false 4 = q from fun _ => rfl, Mr.blanks0 (.cons (by decide))]
  dsimp only
  rw [show 61 :: 34 :: (escS a.2 ++ 34 :: t) = [61] ++ (34 :: (escS a.2 ++ 34 :: t)) from rfl, Mr.wants, Mr.blanks0 (.cons (by decide))]
  dsimp only
  rw [if_pos (show (Mr _ _ _ _ _).e = 0 from rfl), Mr.value ha.clean ha.len]
  unfold prOf attT
  simp [List.append_assoc]
theorem attsT_cons (a : (Txt × Txt) × Txt) (az : List ((Txt × Txt) × Txt)) : attsT (a :: az) = 32 :: (attT a ++ attsT az) := rfl
theorem attsT_len : ∀ az : List ((Txt × Txt) × Txt), az.length ≤ (attsT az).length
  | [] => Nat.le_refl _
  | a :: az => by
    rw [attsT_cons, List.length_cons, List.length_cons, List.length_append]
    have := attsT_len az
    omega
/-- no name twice -/
def noDup (l : List XPr) : List ((Txt × Txt) × Txt) → Bool
  | [] => true
  | a :: az => !dupB l a && noDup (l ++ [prOf a]) az
theorem nmT_head (hn : NOk n) : ∃ c r, nmT n = c :: r ∧ XRd.begs c = true := by
  unfold nmT
  split
  · exact hn.name.head
  · rename_i h
    obtain ⟨c, r, e, hc⟩ := (hn.pre.resolve_left h).head
    exact ⟨c, r ++ 58 :: n.2, by rw [e]; rfl, hc⟩
theorem begs_no {c : UInt8} (h : XRd.begs c = true) : c ≠ 47 ∧ c ≠ 62 ∧ c ≠ 33 ∧ c ≠ 63 ∧ XRd.isBl c = false := by
  have hx : ∀ x : Fin 256, XRd.begs (UInt8.ofNat x.val) = true → (UInt8.ofNat x.val) ≠ 47 ∧ (UInt8.ofNat x.val) ≠ 62 ∧ (UInt8.ofNat x.val) ≠ 33 ∧ (UInt8.ofNat x.val) ≠ 63 ∧ XRd.isBl (UInt8.ofNat x.val) = false := by decide +kernel
  have := hx ⟨c.toNat, c.toNat_lt⟩
  simp only [UInt8.ofNat_toNat] at this
  exact this h
theorem attrs_step {a : (Txt × Txt) × Txt} {l : List XPr} {f : Nat} (ha : AOk a) : XRd.attrsGo decX signS (f + 1) l (Mr p (32 :: (attT a ++ t)) out op run) = XRd.attrsGo decX signS f (l ++ [(XRd.attr decX signS l (Mr (p ++ [32]) (attT a ++ t) out op run)).1]) (XRd.attr decX signS l (Mr (p ++ [32]) (attT a ++ t) out op run)).2 := by
  obtain ⟨c, r, hc, hb⟩ := nmT_head ha.name
  obtain ⟨h47, h62, _, _, hbl⟩ := begs_no hb
  obtain ⟨r', hat⟩ : ∃ r', attT a ++ t = c :: r' := by unfold attT; rw [hc]; exact ⟨_, rfl⟩
  conv => lhs; unfold XRd.attrsGo
  rw [if_neg (fun h => h rfl), hat, show 32 :: c :: r' = [32] ++ (c :: r') from rfl, Mr.blanks (by decide) (.cons hbl)]
  dsimp only
  rw [Mr.see0]
  dsimp only
  rw [if_neg (by rintro (e | e | e); exact e rfl; exact h47 e; exact h62 e), if_neg (by simp)]
theorem Mr.attrsGo {e : UInt8} (he : e = 47 ∨ e = 62) : ∀ {az : List ((Txt × Txt) × Txt)} {l : List XPr} {f : Nat} {p : Txt}, (∀ a ∈ az, AOk a) → noDup l az = true → az.length < f → XRd.attrsGo decX signS f l (Mr p (attsT az ++ e :: t) out op run) = (l ++ az.map prOf, Mr (p ++ attsT az) (e :: t) out op run)
  | [], l, f, p, _, _, hf => by
    obtain ⟨f, rfl⟩ : ∃ g, f = g + 1 := ⟨f - 1, by omega⟩
    unfold XRd.attrsGo
    rw [if_neg (fun h => h rfl), show attsT [] ++ e :: t = e :: t from rfl, Mr.blanks0 (.cons (by rcases he with rfl | rfl <;> decide))]
    dsimp only
    rw [Mr.see0]
    dsimp only
    rw [if_pos (.inr he)]
    simp [attsT]
  | a :: az, l, f, p, ha, hd, hf => by
    obtain ⟨f, rfl⟩ : ∃ g, f = g + 1 := ⟨f - 1, by omega⟩
    unfold noDup at hd
    rw [Bool.and_eq_true, Bool.not_eq_true'] at hd
    have ha1 := ha a (by simp)
    rw [attsT_cons, List.cons_append, List.append_assoc, attrs_step ha1, Mr.attr ha1 hd.1]
    dsimp only
    rw [Mr.attrsGo he (fun b hb => ha b (by simp [hb])) hd.2 (by simp at hf; omega)]
    simp [List.append_assoc]
/-- attributes' spaces -/
def attsP (f : XFr) (op : List XFr) : List XPr → Option (List XAt)
  | [] => some []
  | p :: l => if (XRd.tells p).2 then attsP f op l else
    match (if p.pre ≠ [] then XRd.spaceV f p.pre op else some []) with
    | none => none
    | some s => (attsP f op l).map fun r => ⟨s, p.name, p.value⟩ :: r
theorem attsOf_ok {f : XFr} {r : XRd} : ∀ {l : List XPr} {o ats : List XAt}, attsP f r.op l = some ats → XRd.attsOf f l o r = (o ++ ats, r)
  | [], o, ats, h => by cases h; rw [List.append_nil]; rfl
  | p :: l, o, ats, h => by
    unfold attsP at h
    unfold XRd.attsOf
    split at h
    · rename_i ht
      rw [if_pos ht]
      exact attsOf_ok h
    · rename_i ht
      rw [if_neg ht]
      split at h
      · cases h
      · rename_i s hs
        obtain ⟨r', hr, e⟩ := Option.map_eq_some_iff.1 h
        by_cases hp : p.pre ≠ []
        · rw [if_pos hp] at hs ⊢
          rw [XRd.space_eq, hs]
          dsimp only
          rw [attsOf_ok hr, ← e]
          simp
        · rw [if_neg hp] at hs ⊢
          cases hs
          rw [attsOf_ok hr, ← e]
          simp
theorem Mr.begin_ {l : List XPr} {sp : Txt} {ats : List XAt} (hs : XRd.spaceV ⟨n.1, n.2, XRd.spacesOf l []⟩ n.1 op = some sp) (ha : attsP ⟨n.1, n.2, XRd.spacesOf l []⟩ op l = some ats) : XRd.begin_ n l (Mr p t out op run) = (⟨n.1, n.2, XRd.spacesOf l []⟩, Mr p t (out ++ [⟨1, sp, n.2, [], ats⟩]) op run) := by
  unfold XRd.begin_
  dsimp only
  have h1 : XRd.space ⟨n.1, n.2, XRd.spacesOf l []⟩ n.1 (Mr p t out op run) = (sp, Mr p t out op run) := by
    rw [XRd.space_eq, show (Mr p t out op run).op = op from rfl, hs]
  rw [h1]
  dsimp only
  rw [attsOf_ok (r := Mr p t out op run) ha]
  rfl
theorem Mr.close {f : XFr} {sp : Txt} (hs : XRd.spaceV f f.pre op = some sp) : XRd.close f (Mr p t out op run) = Mr p t (out ++ [⟨2, sp, f.name, [], []⟩]) op run := by
  unfold XRd.close
  have h1 : XRd.space f f.pre (Mr p t out op run) = (sp, Mr p t out op run) := by
    rw [XRd.space_eq, show (Mr p t out op run).op = op from rfl, hs]
  rw [h1]
  rfl
abbrev frOf (n : Txt × Txt) (az : List ((Txt × Txt) × Txt)) : XFr := ⟨n.1, n.2, XRd.spacesOf (az.map prOf) []⟩
theorem stopsA {e : UInt8} (he : e = 47 ∨ e = 62) {az : List ((Txt × Txt) × Txt)} {g : UInt8 → Bool} (h32 : g 32 = false) (h47 : g 47 = false) (h62 : g 62 = false) : Stops g (attsT az ++ e :: t) := by
  cases az with
  | nil => exact .cons (by rcases he with rfl | rfl; exact h47; exact h62)
  | cons a az => exact .cons h32
theorem Mr.element_head {e : UInt8} (he : e = 47 ∨ e = 62) {az : List ((Txt × Txt) × Txt)} (hn : NOk n) (ha : ∀ a ∈ az, AOk a) (hd : noDup [] az = true) :
    (Mr (p ++ [60]) (nmT n ++ (attsT az ++ e :: t)) out op run).full = (n, Mr (p ++ [60] ++ nmT n) (attsT az ++ e :: t) out op run) ∧
    XRd.attrs decX signS (Mr (p ++ [60] ++ nmT n) (attsT az ++ e :: t) out op run) = (az.map prOf, Mr (p ++ [60] ++ nmT n ++ attsT az) (e :: t) out op run) := by
  refine ⟨Mr.full hn (stopsA he (by decide) (by decide) (by decide)) (stopsA he (by decide) (by decide) (by decide)), ?_⟩
  unfold XRd.attrs
  have hl := attsT_len az
  rw [Mr.attrsGo he ha hd (by show az.length < (p ++ [60] ++ nmT n ++ (attsT az ++ e :: t)).length + 3; simp; omega), List.nil_append]
/-- an element that is opened -/
theorem Mr.element {az : List ((Txt × Txt) × Txt)} {sp : Txt} {ats : List XAt} (hn : NOk n) (ha : ∀ a ∈ az, AOk a) (hd : noDup [] az = true) (hop : op.length < 64) (hs : XRd.spaceV (frOf n az) n.1 op = some sp) (hat : attsP (frOf n az) op (az.map prOf) = some ats) :
    XRd.element decX signS (Mr p (60 :: (nmT n ++ (attsT az ++ 62 :: t))) out op run) = Mr (p ++ 60 :: (nmT n ++ (attsT az ++ [62]))) t (out ++ [⟨1, sp, n.2, [], ats⟩]) (op ++ [frOf n az]) run := by
  obtain ⟨h1, h2⟩ := Mr.element_head (p := p) (t := t) (out := out) (op := op) (run := run) (e := 62) (.inr rfl) hn ha hd
  unfold XRd.element
  dsimp only
  rw [Mr.on1, if_neg (by show ¬ 64 ≤ op.length; omega), h1]
  dsimp only
  rw [h2]
  dsimp only
  rw [if_neg (fun h => h rfl), Mr.see0]
  dsimp only
  have e62 : ((62 : UInt8) = 47) = False := eq_false (by decide)
  simp only [e62, if_false]
  rw [show (62 : UInt8) :: t = [62] ++ t from rfl, Mr.wants]
  rw [if_neg (fun h => h rfl), Mr.begin_ hs hat]
  unfold Mr
  simp [List.append_assoc]
/-- an element that is opened and closed at once -/
theorem Mr.element1 {az : List ((Txt × Txt) × Txt)} {sp : Txt} {ats : List XAt} (hn : NOk n) (ha : ∀ a ∈ az, AOk a) (hd : noDup [] az = true) (hop : op.length < 64) (hs : XRd.spaceV (frOf n az) n.1 op = some sp) (hat : attsP (frOf n az) op (az.map prOf) = some ats) :
    XRd.element decX signS (Mr p (60 :: (nmT n ++ (attsT az ++ 47 :: 62 :: t))) out op run) = Mr (p ++ 60 :: (nmT n ++ (attsT az ++ [47, 62]))) t (out ++ [⟨1, sp, n.2, [], ats⟩] ++ [⟨2, sp, n.2, [], []⟩]) op run := by
  obtain ⟨h1, h2⟩ := Mr.element_head (p := p) (t := 62 :: t) (out := out) (op := op) (run := run) (e := 47) (.inl rfl) hn ha hd
  unfold XRd.element
  dsimp only
  rw [Mr.on1, if_neg (by show ¬ 64 ≤ op.length; omega), h1]
  dsimp only
  rw [h2]
  dsimp only
  rw [if_neg (fun h => h rfl), Mr.see0]
  dsimp only
  simp only [if_true]
  rw [Mr.on1, show (62 : UInt8) :: t = [62] ++ t from rfl, Mr.wants]
  rw [if_neg (fun h => h rfl), Mr.begin_ hs hat]
  dsimp only
  rw [Mr.close hs]
  unfold Mr
  simp [List.append_assoc]
variable {e : Txt}
end
end Go.Proofs.YtlflpbflpcmckaaGreatDoor
namespace Go.Proofs.YtlflpbflpcmckaaGreatDoor
open Go Go.Ez Go.RowKit Go.Lib
set_option linter.unusedSimpArgs false
set_option linter.unusedVariables false
/-- tokens behind a text that was read -/
def flO (out : List XTk) (run : Txt) : List XTk := if run = [] then out else out ++ [⟨3, [], [], run, []⟩]
section
variable {p t x : Txt} {out : List XTk} {op : List XFr} {run : Txt} {c d : UInt8} {n : Txt × Txt} {b : Txt} {q : XRd}
theorem Mr.flush (hr : run.length ≤ 8000) : (Mr p t out op run).flush = Mr p t (flO out run) op [] := by
  unfold XRd.flush flO
  show (if 8000 < run.length then _ else _) = _
  rw [if_neg (by omega)]
  show (if run ≠ [] then _ else _) = _
  by_cases h : run = []
  · rw [if_neg (fun hn => hn h), if_pos h]; rfl
  · rw [if_pos h, if_neg h]; rfl
theorem content_tag {u : Txt} (hn : NOk n) (hr : run.length ≤ 8000) : XRd.content decX signS (Mr p (60 :: (nmT n ++ u)) out op run) = XRd.element decX signS (Mr p (60 :: (nmT n ++ u)) (flO out run) op []) := by
  obtain ⟨c, r, hc, hb⟩ := nmT_head hn
  obtain ⟨h47, h62, h33, _, _⟩ := begs_no hb
  unfold XRd.content
  dsimp only
  rw [Mr.see0]
  dsimp only
  have e60 : ((60 : UInt8) ≠ 60) = False := eq_false (fun h => h rfl)
  simp only [e60, if_false]
  rw [hc, List.cons_append, Mr.see1]
  dsimp only
  rw [if_neg (fun h => h rfl), if_neg (fun h => h33 h.1), if_neg h33, if_neg h47, if_pos hb, Mr.flush hr]
theorem content_open {az : List ((Txt × Txt) × Txt)} {sp : Txt} {ats : List XAt} (hn : NOk n) (hr : run.length ≤ 8000) (ha : ∀ a ∈ az, AOk a) (hd : noDup [] az = true) (hop : op.length < 64) (hs : XRd.spaceV (frOf n az) n.1 op = some sp) (hat : attsP (frOf n az) op (az.map prOf) = some ats) :
    XRd.content decX signS (Mr p (60 :: (nmT n ++ (attsT az ++ 62 :: t))) out op run) = Mr (p ++ 60 :: (nmT n ++ (attsT az ++ [62]))) t (flO out run ++ [⟨1, sp, n.2, [], ats⟩]) (op ++ [frOf n az]) [] := by
  rw [content_tag hn hr, Mr.element hn ha hd hop hs hat]
theorem content_one {az : List ((Txt × Txt) × Txt)} {sp : Txt} {ats : List XAt} (hn : NOk n) (hr : run.length ≤ 8000) (ha : ∀ a ∈ az, AOk a) (hd : noDup [] az = true) (hop : op.length < 64) (hs : XRd.spaceV (frOf n az) n.1 op = some sp) (hat : attsP (frOf n az) op (az.map prOf) = some ats) :
    XRd.content decX signS (Mr p (60 :: (nmT n ++ (attsT az ++ 47 :: 62 :: t))) out op run) = Mr (p ++ 60 :: (nmT n ++ (attsT az ++ [47, 62]))) t (flO out run ++ [⟨1, sp, n.2, [], ats⟩] ++ [⟨2, sp, n.2, [], []⟩]) op [] := by
  rw [content_tag hn hr, Mr.element1 hn ha hd hop hs hat]
theorem content_close {f : XFr} {sp : Txt} (hn : NOk n) (h1 : f.pre = n.1) (h2 : f.name = n.2) (hr : run.length ≤ 8000) (hs : XRd.spaceV f f.pre op = some sp) :
    XRd.content decX signS (Mr p (60 :: 47 :: (nmT n ++ 62 :: t)) out (op ++ [f]) run) = Mr (p ++ 60 :: 47 :: (nmT n ++ [62])) t (flO out run ++ [⟨2, sp, n.2, [], []⟩]) op [] := by
  unfold XRd.content
  dsimp only
  rw [Mr.see0]
  dsimp only
  have e60 : ((60 : UInt8) ≠ 60) = False := eq_false (fun h => h rfl)
  simp only [e60, if_false]
  rw [Mr.see1]
  dsimp only
  rw [if_neg (fun h => h rfl), if_neg (fun h => absurd h.1 (by decide)), if_neg (by decide), if_pos rfl, Mr.flush hr]
  unfold XRd.end_
  dsimp only
  have hon : (Mr p (60 :: 47 :: (nmT n ++ 62 :: t)) (flO out run) (op ++ [f]) []).on 2 = Mr (p ++ [60, 47]) (nmT n ++ 62 :: t) (flO out run) (op ++ [f]) [] := Mr.on (x := [60, 47])
  rw [hon, Mr.full hn (.cons (by decide)) (.cons (by decide))]
  dsimp only
  have hl : (Mr (p ++ [60, 47]) (nmT n ++ 62 :: t) (flO out run) (op ++ [f]) []).op.getLastD default = f := by show (op ++ [f]).getLastD default = f; simp
  rw [hl, decide_eq_false (fun h => h.2 ⟨h1.symm, h2.symm⟩), show ∀ q : XRd, q.failIf false 4 = q from fun _ => rfl, Mr.blanks0 (.cons (by decide))]
  dsimp only
  rw [show (62 : UInt8) :: t = [62] ++ t from rfl, Mr.wants, if_pos (show (Mr _ _ _ _ _).e = 0 from rfl), Mr.close (by rw [XRd.spaceV_self]; exact hs)]
  unfold Mr
  simp [List.append_assoc, h2]
/-- steps within a document -/
def Stps (N : Nat) (r r' : XRd) : Prop := ∀ f, XRd.contents decX signS (f + N) r = XRd.contents decX signS f r'
theorem Stps.zero {r : XRd} : Stps 0 r r := fun f => rfl
theorem Stps.trans {N M : Nat} {r r' r'' : XRd} (h : Stps N r r') (h' : Stps M r' r'') : Stps (M + N) r r'' := fun f => by rw [← Nat.add_assoc, h, h']
theorem Stps.one {r r' : XRd} (he : r.e = 0) (ho : r.op ≠ []) (h : XRd.content decX signS r = r') : Stps 1 r r' := fun f => by
  show XRd.contents decX signS (f + 1) r = _
  conv => lhs; unfold XRd.contents
  rw [if_pos ⟨he, ho⟩, h]
/-- a text that is escaped -/
theorem Stps.text : ∀ (k : Nat) {s p : Txt} {run : Txt}, s.length ≤ k → cleanS s = true → op ≠ [] → ∃ N, N ≤ s.length ∧ Stps N (Mr p (escS s ++ t) out op run) (Mr (p ++ escS s) t out op (run ++ s))
  | k, s, p, run, hk, hc, ho => by
    by_cases hs : s = []
    · subst hs
      refine ⟨0, Nat.le_refl _, ?_⟩
      rw [List.append_nil, show p ++ escS [] = p from List.append_nil p]
      exact .zero
    · obtain ⟨x, s', hxs, hx, hc', hpart, _, c, r, he, h34, h60⟩ := esc_step hs hc
      have hxl := List.length_pos_iff.2 hx
      have hlen : s.length = x.length + s'.length := by rw [hxs, List.length_append]
      cases k with
      | zero => omega
      | succ k =>
        obtain ⟨N, hN, h2⟩ := Stps.text k (s := s') (p := p ++ escS x) (run := run ++ x) (by omega) hc' ho
        have h1 : Stps 1 (Mr p (escS s ++ t) out op run) (Mr (p ++ escS x) (escS s' ++ t) out op (run ++ x)) := by
          refine .one rfl ho ?_
          unfold XRd.content
          have hsee : (Mr p (escS s ++ t) out op run).see 0 = (c, Mr p (escS s ++ t) out op run) := by rw [he, List.cons_append]; exact Mr.see0
          dsimp only
          rw [hsee]
          dsimp only
          rw [if_pos h60, hpart]
          rfl
        refine ⟨N + 1, by omega, ?_⟩
        have := h1.trans h2
        have e1 : escS s = escS x ++ escS s' := by rw [hxs, escS_app]
        rw [List.append_assoc, ← e1, List.append_assoc, ← hxs] at this
        exact this
theorem front_plain {u : Txt} (h : d ≠ 63 ∧ d ≠ 33) : XRd.front decX ⟨60 :: d :: u, 0, 0, [], [], []⟩ = Mr [] (60 :: d :: u) [] [] [] := by
  have hr : (⟨60 :: d :: u, 0, 0, [], [], []⟩ : XRd) = Mr [] (60 :: d :: u) [] [] [] := rfl
  unfold XRd.front
  rw [hr]
  dsimp only
  have e1 : XRd.isPre [239, 187, 191] (60 :: d :: u) = false := by
    unfold XRd.isPre
    refine decide_eq_false fun e => ?_
    have := congrArg List.head? e
    simp at this
  have e2 : XRd.isPre [60, 63] (60 :: d :: u) = false := by
    unfold XRd.isPre
    refine decide_eq_false fun e => ?_
    simp at e
    exact h.1 e
  have e3 : XRd.isPre [60, 33] (60 :: d :: u) = false := by
    unfold XRd.isPre
    refine decide_eq_false fun e => ?_
    simp at e
    exact h.2 e
  rw [Mr.rest, e1]
  simp only [Bool.false_eq_true, if_false]
  rw [Mr.rest, e2]
  simp only [Bool.false_eq_true, if_false]
  unfold XRd.misc
  rw [if_neg (fun h => h rfl), Mr.blanks0 (.cons (by decide))]
  dsimp only
  rw [Mr.rest, e3, if_pos rfl]
/-- what is told of a document, if what stands ahead is passed -/
theorem tok_of {p1 u : Txt} {q4 : XRd} (hl : b.length ≤ 20000) (hf : XRd.front decX ⟨b, 0, 0, [], [], []⟩ = Mr p1 (60 :: c :: u) [] [] []) (hb : XRd.begs c = true) (hc : XRd.contents decX signS (b.length + 2) (XRd.element decX signS (Mr p1 (60 :: c :: u) [] [] [])) = q4) :
    tokX b = (if (((XRd.misc decX (b.length + 2) q4).failIf (decide ((XRd.misc decX (b.length + 2) q4).e = 0 ∧ (XRd.misc decX (b.length + 2) q4).at_ < (XRd.misc decX (b.length + 2) q4).s.length)) 4).e ≠ 0) then ([], ((XRd.misc decX (b.length + 2) q4).failIf (decide ((XRd.misc decX (b.length + 2) q4).e = 0 ∧ (XRd.misc decX (b.length + 2) q4).at_ < (XRd.misc decX (b.length + 2) q4).s.length)) 4).e)
      else (((XRd.misc decX (b.length + 2) q4).failIf (decide ((XRd.misc decX (b.length + 2) q4).e = 0 ∧ (XRd.misc decX (b.length + 2) q4).at_ < (XRd.misc decX (b.length + 2) q4).s.length)) 4).out, 0)) := by
  unfold tokX XRd.tokens
  rw [if_neg (by omega)]
  dsimp only
  rw [hf, Mr.see0]
  dsimp only
  rw [decide_eq_false (fun h => h.2 rfl), show ∀ q : XRd, q.failIf false 4 = q from fun _ => rfl, Mr.see1]
  dsimp only
  rw [hb, Bool.not_true, Bool.and_false, show ∀ q : XRd, q.failIf false 4 = q from fun _ => rfl, if_pos (show (Mr _ _ _ _ _).e = 0 from rfl), hc]
theorem tok_ok {p1 p4 u : Txt} (hl : b.length ≤ 20000) (hf : XRd.front decX ⟨b, 0, 0, [], [], []⟩ = Mr p1 (60 :: c :: u) [] [] []) (hb : XRd.begs c = true) (hc : XRd.contents decX signS (b.length + 2) (XRd.element decX signS (Mr p1 (60 :: c :: u) [] [] [])) = Mr p4 [] out op run) : tokX b = (out, 0) := by
  rw [tok_of hl hf hb hc]
  have hm : XRd.misc decX (b.length + 2) (Mr p4 [] out op run) = Mr p4 [] out op run := by
    unfold XRd.misc
    rw [if_neg (fun h => h rfl), Mr.blanks0 .nil]
    dsimp only
    rw [Mr.rest, if_pos (by decide)]
  have hlen : (Mr p4 [] out op run).s.length = p4.length := by show (p4 ++ []).length = _; simp
  rw [hm, decide_eq_false (fun h => Nat.lt_irrefl p4.length (Nat.lt_of_lt_of_eq h.2 hlen))]
  rw [if_neg (fun h => h rfl)]
  rfl
theorem contents_done {f : Nat} {r : XRd} (h : r.op = []) : XRd.contents decX signS f r = r := by
  cases f with
  | zero => rfl
  | succ f => unfold XRd.contents; rw [if_neg (fun hx => hx.2 h)]
theorem Stps.done {N F : Nat} {r r' : XRd} (h : Stps N r r') (hF : N ≤ F) (ho : r'.op = []) : XRd.contents decX signS F r = r' := by
  obtain ⟨f, rfl⟩ : ∃ f, F = f + N := ⟨F - N, by omega⟩
  rw [h, contents_done ho]
end
end Go.Proofs.YtlflpbflpcmckaaGreatDoor
namespace Go.Proofs.YtlflpbflpcmckaaGreatDoor
open Go Go.Ez Go.RowKit Go.Lib
set_option linter.unusedSimpArgs false
set_option linter.unusedVariables false
/-- a text that needs no escape -/
def plnB (c : UInt8) : Bool := decide (c.toNat < 128) && (decide (32 ≤ c.toNat) || XRd.isBl c) && !(c == 60 || c == 62 || c == 38 || c == 34)
def Pln (s : Txt) : Prop := ∀ c ∈ s, plnB c = true
theorem pln_parts {c : UInt8} (h : plnB c = true) : c.toNat < 128 ∧ (decide (32 ≤ c.toNat) || XRd.isBl c) = true ∧ c ≠ 60 ∧ c ≠ 62 ∧ c ≠ 38 ∧ c ≠ 34 := by
  unfold plnB at h
  rw [Bool.and_eq_true, Bool.and_eq_true] at h
  obtain ⟨⟨h1, h2⟩, h3⟩ := h
  refine ⟨of_decide_eq_true h1, h2, ?_⟩
  simpa [not_or, and_assoc] using h3
theorem Pln.esc : ∀ {s : Txt}, Pln s → escS s = s
  | [], _ => rfl
  | c :: s, h => by
    obtain ⟨_, _, h1, h2, h3, h4⟩ := pln_parts (h c (List.mem_cons_self ..))
    have e : escS (c :: s) = escB c ++ escS s := rfl
    rw [e, Pln.esc fun d hd => h d (List.mem_cons_of_mem _ hd)]
    unfold escB
    rw [if_neg h1, if_neg h2, if_neg h3, if_neg h4]
    rfl
theorem Pln.clean {s : Txt} (h : Pln s) : cleanS s = true := by
  unfold cleanS
  rw [Bool.and_eq_true]
  refine ⟨List.all_eq_true.2 fun c hc => (pln_parts (h c hc)).2.1, ?_⟩
  rw [validD_ascii s.length s fun c hc => (pln_parts (h c (List.mem_of_mem_take hc))).1, List.drop_length]
  rfl
theorem pln_of {s : Txt} (h : (s.all plnB) = true) : Pln s := List.all_eq_true.1 h
/-- where a part of depth k stands, in the space sp -/
structure Ctx (k : Nat) (sp : Txt) (op : List XFr) : Prop where
  ne : op ≠ []
  len : op.length + k ≤ 64
  sp : ∀ n, XRd.spaceV ⟨[], n, []⟩ [] op = some sp
theorem Ctx.mono {k j : Nat} {sp : Txt} {op : List XFr} (h : Ctx k sp op) (hj : j ≤ k) : Ctx j sp op := ⟨h.ne, by have := h.len; omega, h.sp⟩
theorem spaceV_push (n m : Txt) (op : List XFr) : XRd.spaceV ⟨[], n, []⟩ [] (op ++ [⟨[], m, []⟩]) = XRd.spaceV ⟨[], n, []⟩ [] op := by
  unfold XRd.spaceV
  rw [List.reverse_append]
  rfl
theorem Ctx.push {k : Nat} {sp : Txt} {op : List XFr} (h : Ctx (k + 1) sp op) (m : Txt) : Ctx k sp (op ++ [⟨[], m, []⟩]) :=
  ⟨by simp, by have := h.len; rw [List.length_append, List.length_singleton]; omega, fun n => by rw [spaceV_push]; exact h.sp n⟩
/-- a part is read as tokens -/
def Rds (k : Nat) (sp : Txt) (d : Txt) (B : List XTk) : Prop := ∀ op, Ctx k sp op → ∀ (p t : Txt) (out : List XTk), ∃ N, N ≤ d.length ∧ Stps N (Mr p (d ++ t) out op []) (Mr (p ++ d) t (out ++ B) op [])
theorem Rds.nil {k : Nat} {sp : Txt} : Rds k sp [] [] := fun op _ p t out => ⟨0, Nat.le_refl _, by rw [List.nil_append, List.append_nil, List.append_nil]; exact .zero⟩
theorem Rds.app {k : Nat} {sp d1 d2 : Txt} {B1 B2 : List XTk} (h1 : Rds k sp d1 B1) (h2 : Rds k sp d2 B2) : Rds k sp (d1 ++ d2) (B1 ++ B2) := fun op c p t out => by
  obtain ⟨N1, l1, s1⟩ := h1 op c p (d2 ++ t) out
  obtain ⟨N2, l2, s2⟩ := h2 op c (p ++ d1) t (out ++ B1)
  refine ⟨N2 + N1, by rw [List.length_append]; omega, ?_⟩
  have := s1.trans s2
  rw [List.append_assoc, List.append_assoc, ← List.append_assoc d1] at this
  exact this
theorem Rds.mono {k j : Nat} {sp d : Txt} {B : List XTk} (h : Rds j sp d B) (hj : j ≤ k) : Rds k sp d B := fun op c => h op (c.mono hj)
def opn (x : Txt) : Txt := 60 :: (x ++ [62])
def cls (x : Txt) : Txt := 60 :: 47 :: (x ++ [62])
def elT (x sp : Txt) (ats : List XAt) (B : List XTk) : List XTk := ⟨1, sp, x, [], ats⟩ :: (B ++ [⟨2, sp, x, [], []⟩])
theorem nm1 {x : Txt} (hx : NmOk x) : NOk (([], x) : Txt × Txt) := ⟨.inl rfl, hx⟩
theorem nmT1 (x : Txt) : nmT (([], x) : Txt × Txt) = x := by unfold nmT; rw [if_pos rfl]
theorem s_open {k : Nat} {sp x : Txt} {op : List XFr} (hx : NmOk x) (c : Ctx (k + 1) sp op) (p t : Txt) (out : List XTk) : Stps 1 (Mr p (opn x ++ t) out op []) (Mr (p ++ opn x) t (out ++ [⟨1, sp, x, [], []⟩]) (op ++ [⟨[], x, []⟩]) []) := by
  have h := content_open (n := (([], x) : Txt × Txt)) (az := []) (sp := sp) (ats := []) (p := p) (t := t) (out := out) (op := op) (run := []) (nm1 hx) (by decide) (by intro y hy; cases hy) rfl (by have := c.len; omega) (c.sp x) rfl
  rw [nmT1] at h
  have e : 60 :: (x ++ (attsT [] ++ 62 :: t)) = opn x ++ t := by show 60 :: (x ++ 62 :: t) = _; unfold opn; simp
  rw [e] at h
  exact Stps.one rfl c.ne h
theorem s_close {sp x run : Txt} {op : List XFr} (hx : NmOk x) (hr : run.length ≤ 8000) (hs : XRd.spaceV ⟨[], x, []⟩ [] op = some sp) (p t : Txt) (out : List XTk) : Stps 1 (Mr p (cls x ++ t) out (op ++ [⟨[], x, []⟩]) run) (Mr (p ++ cls x) t (flO out run ++ [⟨2, sp, x, [], []⟩]) op []) := by
  have h := content_close (n := (([], x) : Txt × Txt)) (f := ⟨[], x, []⟩) (sp := sp) (p := p) (t := t) (out := out) (op := op) (run := run) (nm1 hx) rfl rfl hr hs
  rw [nmT1] at h
  have e : 60 :: 47 :: (x ++ 62 :: t) = cls x ++ t := by unfold cls; simp
  rw [e] at h
  exact Stps.one rfl (by show op ++ [_] ≠ []; simp) h
theorem Rds.el {k : Nat} {sp x d : Txt} {B : List XTk} (hx : NmOk x) (h : Rds k sp d B) : Rds (k + 1) sp (opn x ++ (d ++ cls x)) (elT x sp [] B) := fun op c p t out => by
  have s1 := s_open hx c p (d ++ (cls x ++ t)) out
  obtain ⟨N, hN, s2⟩ := h _ (c.push x) (p ++ opn x) (cls x ++ t) (out ++ [⟨1, sp, x, [], []⟩])
  have s3 := s_close (run := []) hx (by decide) (c.sp x) (p ++ opn x ++ d) t (out ++ [⟨1, sp, x, [], []⟩] ++ B)
  have := (s1.trans s2).trans s3
  refine ⟨1 + (N + 1), ?_, ?_⟩
  · simp only [List.length_append, opn, cls, List.length_cons]
    omega
  · have e1 : opn x ++ (d ++ cls x) ++ t = opn x ++ (d ++ (cls x ++ t)) := by simp
    have e2 : p ++ (opn x ++ (d ++ cls x)) = p ++ opn x ++ d ++ cls x := by simp
    have e3 : out ++ elT x sp [] B = flO (out ++ [⟨1, sp, x, [], []⟩] ++ B) [] ++ [⟨2, sp, x, [], []⟩] := by unfold elT flO; rw [if_pos rfl]; simp
    rw [e1, e2, e3]
    exact this
theorem Rds.leaf {sp x s : Txt} (hx : NmOk x) (hs : Pln s) (hne : s ≠ []) (hl : s.length ≤ 8000) : Rds 1 sp (opn x ++ (s ++ cls x)) (elT x sp [] [⟨3, [], [], s, []⟩]) := fun op c p t out => by
  have s1 := s_open hx c p (s ++ (cls x ++ t)) out
  obtain ⟨N, hN, s2⟩ := Stps.text s.length (s := s) (p := p ++ opn x) (t := cls x ++ t) (run := []) (out := out ++ [⟨1, sp, x, [], []⟩]) (op := op ++ [⟨[], x, []⟩]) (Nat.le_refl _) hs.clean (by simp)
  rw [hs.esc, List.nil_append] at s2
  have s3 := s_close (run := s) hx hl (c.sp x) (p ++ opn x ++ s) t (out ++ [⟨1, sp, x, [], []⟩])
  have := (s1.trans s2).trans s3
  refine ⟨1 + (N + 1), ?_, ?_⟩
  · simp only [List.length_append, opn, cls, List.length_cons]
    omega
  · have e1 : opn x ++ (s ++ cls x) ++ t = opn x ++ (s ++ (cls x ++ t)) := by simp
    have e2 : p ++ (opn x ++ (s ++ cls x)) = p ++ opn x ++ s ++ cls x := by simp
    have e3 : out ++ elT x sp [] [⟨3, [], [], s, []⟩] = flO (out ++ [⟨1, sp, x, [], []⟩]) s ++ [⟨2, sp, x, [], []⟩] := by unfold elT flO; rw [if_neg hne]; simp
    rw [e1, e2, e3]
    exact this
/-- an element with attributes that have no prefix, closed at once -/
theorem Rds.one {sp x : Txt} {az : List ((Txt × Txt) × Txt)} {ats : List XAt} (hx : NmOk x) (ha : ∀ a ∈ az, AOk a) (hd : noDup [] az = true) (hf : frOf (([], x) : Txt × Txt) az = ⟨[], x, []⟩) (hat : ∀ op, attsP ⟨[], x, []⟩ op (az.map prOf) = some ats) :
    Rds 1 sp (60 :: (x ++ (attsT az ++ [47, 62]))) (elT x sp ats []) := fun op c p t out => by
  have h := content_one (n := (([], x) : Txt × Txt)) (az := az) (sp := sp) (ats := ats) (p := p) (t := t) (out := out) (op := op) (run := []) (nm1 hx) (by decide) ha hd (by have := c.len; omega) (by rw [hf]; exact c.sp x) (by rw [hf]; exact hat op)
  rw [nmT1] at h
  refine ⟨1, by simp, ?_⟩
  have e1 : 60 :: (x ++ (attsT az ++ [47, 62])) ++ t = 60 :: (x ++ (attsT az ++ 47 :: 62 :: t)) := by simp
  have e3 : out ++ elT x sp ats [] = flO out [] ++ [⟨1, sp, x, [], ats⟩] ++ [⟨2, sp, x, [], []⟩] := by unfold elT flO; rw [if_pos rfl]; simp
  rw [e1, e3]
  exact Stps.one rfl c.ne h
/-- a whole document -/
theorem tok_root {k : Nat} {sp x d : Txt} {B : List XTk} {az : List ((Txt × Txt) × Txt)} {ats : List XAt} (hx : NmOk x) (ha : ∀ a ∈ az, AOk a) (hd : noDup [] az = true) (hs : XRd.spaceV (frOf (([], x) : Txt × Txt) az) [] [] = some sp) (hat : attsP (frOf (([], x) : Txt × Txt) az) [] (az.map prOf) = some ats)
    (hc : Ctx k sp [frOf (([], x) : Txt × Txt) az]) (h : Rds k sp d B) {doc : Txt} (hdoc : doc = 60 :: (x ++ (attsT az ++ 62 :: (d ++ cls x)))) (hl : doc.length ≤ 20000) : tokX doc = (elT x sp ats B, 0) := by
  obtain ⟨⟨c, r, hxc, hb⟩, hall⟩ := id hx
  obtain ⟨b47, b62, b33, b63, _⟩ := begs_no hb
  have hfront : XRd.front decX ⟨doc, 0, 0, [], [], []⟩ = Mr [] doc [] [] [] := by
    rw [hdoc, hxc, List.cons_append]
    exact front_plain ⟨b63, b33⟩
  have hdc : ∃ u, doc = 60 :: c :: u := by rw [hdoc, hxc, List.cons_append]; exact ⟨_, rfl⟩
  obtain ⟨u, hu⟩ := hdc
  have helem := Mr.element (p := []) (t := d ++ cls x) (out := []) (op := []) (run := []) (n := (([], x) : Txt × Txt)) (az := az) (sp := sp) (ats := ats) (nm1 hx) ha hd (by decide) hs hat
  rw [nmT1, ← hdoc, List.nil_append, List.nil_append, List.nil_append] at helem
  suffices key : ∃ p4, XRd.contents decX signS (doc.length + 2) (XRd.element decX signS (Mr [] doc [] [] [])) = Mr p4 [] (elT x sp ats B) [] [] by
    obtain ⟨p4, key⟩ := key
    rw [hu] at hfront key hl ⊢
    exact tok_ok (p1 := []) hl hfront hb key
  rw [helem]
  generalize hP : 60 :: (x ++ (attsT az ++ [62])) = P0
  obtain ⟨N, hN, s2⟩ := h _ hc P0 (cls x) [⟨1, sp, x, [], ats⟩]
  have h3 := content_close (n := (([], x) : Txt × Txt)) (f := frOf (([], x) : Txt × Txt) az) (sp := sp) (p := P0 ++ d) (t := []) (out := [⟨1, sp, x, [], ats⟩] ++ B) (op := []) (run := []) (nm1 hx) rfl rfl (by decide) hs
  rw [nmT1, List.nil_append] at h3
  have s3 : Stps 1 (Mr (P0 ++ d) (cls x) ([⟨1, sp, x, [], ats⟩] ++ B) [frOf (([], x) : Txt × Txt) az] []) _ := Stps.one rfl (by show [_] ≠ []; simp) h3
  have s := s2.trans s3
  have hlen : d.length ≤ doc.length := by rw [hdoc]; simp; omega
  have s' := Stps.done s (show 1 + N ≤ doc.length + 2 by omega) rfl
  have e3 : flO ([⟨1, sp, x, [], ats⟩] ++ B) [] ++ [⟨2, sp, x, [], []⟩] = elT x sp ats B := by unfold elT flO; rw [if_pos rfl]; simp
  rw [← e3]
  exact ⟨_, s'⟩
/-- a part whose texts are tx -/
def BB (B : List XTk) (tx : Txt) : Prop := ∀ (post : List XTk) (d : Int) (b : Txt), 1 ≤ d → inGo (B ++ post) d b = ((inGo post d (b ++ tx)).1, (inGo post d (b ++ tx)).2.map (· + B.length))
theorem BB.nil : BB [] [] := fun post d b _ => by
  rw [List.nil_append, List.append_nil]
  refine Prod.ext rfl ?_
  dsimp only
  cases (inGo post d b).2 with
  | none => rfl
  | some j => rfl
theorem BB.app {A B : List XTk} {s t : Txt} (ha : BB A s) (hb : BB B t) : BB (A ++ B) (s ++ t) := fun post d b hd => by
  rw [List.append_assoc, ha _ d b hd, hb post d _ hd, ← List.append_assoc b]
  refine Prod.ext rfl ?_
  dsimp only
  cases (inGo post d (b ++ s ++ t)).2 with
  | none => rfl
  | some j => simp only [Option.map_some, List.length_append]; congr 1; omega
theorem inGo_c (t : XTk) (l : List XTk) (d : Int) (b : Txt) : inGo (t :: l) d b = if d + kd t.kind = 0 then (b ++ txOf t, some 0) else ((inGo l (d + kd t.kind) (b ++ txOf t)).1, (inGo l (d + kd t.kind) (b ++ txOf t)).2.map (· + 1)) := rfl
theorem BB.text (s : Txt) : BB [⟨3, [], [], s, []⟩] s := fun post d b hd => by
  rw [List.singleton_append, inGo_c]
  have e : kd (3 : Int) = 0 := rfl
  rw [if_neg (by show ¬ d + kd 3 = 0; rw [e]; omega)]
  show ((inGo post (d + kd 3) (b ++ s)).1, _) = _
  rw [e, Int.add_zero]
  rfl
theorem el_in {x sp : Txt} {ats : List XAt} {B : List XTk} {tx : Txt} (h : BB B tx) (post : List XTk) (d : Int) (b : Txt) (hd : 0 ≤ d) : inGo (elT x sp ats B ++ post) d b = if d = 0 then (b ++ tx, some (B.length + 1)) else ((inGo post d (b ++ tx)).1, (inGo post d (b ++ tx)).2.map (· + (B.length + 2))) := by
  unfold elT
  rw [List.cons_append, inGo_c]
  have e1 : kd (1 : Int) = 1 := rfl
  have e2 : kd (2 : Int) = -1 := rfl
  rw [if_neg (by show ¬ d + kd 1 = 0; rw [e1]; omega)]
  show ((inGo (B ++ [⟨2, sp, x, [], []⟩] ++ post) (d + kd 1) (b ++ [])).1, (inGo (B ++ [⟨2, sp, x, [], []⟩] ++ post) (d + kd 1) (b ++ [])).2.map (· + 1)) = _
  rw [e1, List.append_nil, List.append_assoc, h _ (d + 1) b (by omega), List.singleton_append, inGo_c]
  show ((if d + 1 + kd 2 = 0 then (b ++ tx ++ [], some 0) else ((inGo post (d + 1 + kd 2) (b ++ tx ++ [])).1, (inGo post (d + 1 + kd 2) (b ++ tx ++ [])).2.map (· + 1))).1, Option.map _ (Option.map _ (if d + 1 + kd 2 = 0 then (b ++ tx ++ [], some 0) else ((inGo post (d + 1 + kd 2) (b ++ tx ++ [])).1, (inGo post (d + 1 + kd 2) (b ++ tx ++ [])).2.map (· + 1))).2)) = _
  rw [e2, List.append_nil, show d + 1 + -1 = d by omega]
  by_cases h0 : d = 0
  · rw [if_pos h0, if_pos h0]
    refine Prod.ext rfl ?_
    simp
  · rw [if_neg h0, if_neg h0]
    refine Prod.ext rfl ?_
    dsimp only
    cases (inGo post d (b ++ tx)).2 with
    | none => rfl
    | some j => simp only [Option.map_some]; congr 1; omega
theorem BB.el {x sp : Txt} {ats : List XAt} {B : List XTk} {tx : Txt} (h : BB B tx) : BB (elT x sp ats B) tx := fun post d b hd => by
  rw [el_in h post d b (by omega), if_neg (by omega)]
  have : (elT x sp ats B).length = B.length + 2 := by unfold elT; simp
  rw [this]
theorem innerX_el {x sp : Txt} {ats : List XAt} {B pre post : List XTk} {tx : Txt} (h : BB B tx) : innerX (pre ++ (elT x sp ats B ++ post)) pre.length = (tx, ((pre.length + (B.length + 2) : Nat) : Int)) := by
  unfold innerX
  have hl : (pre ++ (elT x sp ats B ++ post)).length = pre.length + ((B.length + 2) + post.length) := by unfold elT; simp; omega
  rw [if_neg (by omega), Int.toNat_natCast, List.getElem?_append_right (Nat.le_refl _), Nat.sub_self]
  show (if (1 : Int) ≠ 1 then _ else _) = _
  rw [if_neg (fun h => h rfl), List.drop_left, el_in h post 0 [] (Int.le_refl _), if_pos rfl, List.nil_append]
  simp only
  refine Prod.ext rfl ?_
  simp only
  omega
/-- an element: its name, attributes, tokens within, texts, how it is written -/
structure XE where
  nm : Txt
  ats : List XAt
  body : List XTk
  tx : Txt
  doc : Txt
def XE.toks (sp : Txt) (e : XE) : List XTk := elT e.nm sp e.ats e.body
def catT (sp : Txt) (Es : List XE) : List XTk := (Es.map (XE.toks sp)).flatten
theorem catT_cons (sp : Txt) (e : XE) (Es : List XE) : catT sp (e :: Es) = e.toks sp ++ catT sp Es := rfl
theorem toks_len (sp : Txt) (e : XE) : (e.toks sp).length = e.body.length + 2 := by unfold XE.toks elT; simp
theorem kids_cat {sp s2 nm : Txt} {c : XTk} (hc : c.kind ≠ 1) : ∀ (Es : List XE) (pre : List XTk) (f : Nat), (∀ e ∈ Es, BB e.body e.tx) → (catT s2 Es).length + 1 ≤ f →
    (kidsGo sp nm (pre ++ (catT s2 Es ++ [c])) f pre.length).map (subN (pre ++ (catT s2 Es ++ [c]))) = (Es.filter fun e => decide (s2 = sp ∧ e.nm = nm)).map (XE.toks s2)
  | [], pre, f, _, hf => by
    obtain ⟨f, rfl⟩ : ∃ g, f = g + 1 := ⟨f - 1, by omega⟩
    unfold kidsGo
    have h0 : (pre ++ (catT s2 [] ++ [c]))[pre.length]? = some c := by rw [List.getElem?_append_right (Nat.le_refl _), Nat.sub_self]; rfl
    rw [h0]
    dsimp only
    rw [if_pos hc]
    have : kidsGo sp nm (pre ++ (catT s2 [] ++ [c])) f (pre.length + 1) = [] := by
      cases f with
      | zero => rfl
      | succ f =>
        unfold kidsGo
        rw [List.getElem?_eq_none (by show (pre ++ [c]).length ≤ _; simp)]
    rw [this]; rfl
  | e :: Es, pre, f, hB, hf => by
    rw [catT_cons, List.length_append, toks_len] at hf
    obtain ⟨f, rfl⟩ : ∃ g, f = g + 1 := ⟨f - 1, by omega⟩
    have hb := hB e (List.mem_cons_self ..)
    have ih := kids_cat (sp := sp) (s2 := s2) (nm := nm) hc Es (pre ++ e.toks s2) f (fun d hd => hB d (List.mem_cons_of_mem _ hd)) (by omega)
    have hts : pre ++ (catT s2 (e :: Es) ++ [c]) = pre ++ e.toks s2 ++ (catT s2 Es ++ [c]) := by rw [catT_cons]; simp
    have hin : innerX (pre ++ (catT s2 (e :: Es) ++ [c])) pre.length = (e.tx, ((pre.length + (e.body.length + 2) : Nat) : Int)) := by
      rw [catT_cons, List.append_assoc]
      exact innerX_el hb
    have hend : endX (pre ++ (catT s2 (e :: Es) ++ [c])) pre.length = (pre ++ e.toks s2).length := by
      unfold endX
      rw [hin, List.length_append, toks_len]
      exact Int.toNat_natCast _
    have h0 : (pre ++ (catT s2 (e :: Es) ++ [c]))[pre.length]? = some ⟨1, s2, e.nm, [], e.ats⟩ := by
      rw [List.getElem?_append_right (Nat.le_refl _), Nat.sub_self]; rfl
    have hsub : subN (pre ++ (catT s2 (e :: Es) ++ [c])) (pre.length, (pre ++ e.toks s2).length) = e.toks s2 := by
      unfold subN
      rw [catT_cons, List.append_assoc]
      simp only
      rw [List.drop_left, List.length_append, Nat.add_sub_cancel_left, List.take_left]
    unfold kidsGo
    rw [h0]
    dsimp only
    rw [if_neg (fun h => h rfl), hend]
    rw [List.filter_cons]
    by_cases h : s2 = sp ∧ e.nm = nm
    · rw [if_pos h, if_pos (decide_eq_true h), List.map_cons, List.map_cons, hsub]
      congr 1
      rw [hts]
      exact ih
    · rw [if_neg h, if_neg (by simpa using h), hts]
      exact ih
/-- the elements within an element -/
theorem subs_el {sp nm s1 s2 x : Txt} {ats : List XAt} {Es : List XE} (hB : ∀ e ∈ Es, BB e.body e.tx) : subs sp nm (elT x s1 ats (catT s2 Es)) = (Es.filter fun e => decide (s2 = sp ∧ e.nm = nm)).map (XE.toks s2) := by
  unfold subs kids
  have := kids_cat (sp := sp) (s2 := s2) (nm := nm) (c := ⟨2, s1, x, [], []⟩) (show (2 : Int) ≠ 1 by decide) Es [⟨1, s1, x, [], ats⟩] (elT x s1 ats (catT s2 Es)).length hB (by unfold elT; simp)
  exact this
theorem textX_el {x sp : Txt} {ats : List XAt} {B : List XTk} {tx : Txt} (h : BB B tx) : textX (elT x sp ats B) = trimX tx := by
  unfold textX
  have := innerX_el (x := x) (sp := sp) (ats := ats) (pre := []) (post := []) h
  rw [List.nil_append, List.append_nil] at this
  rw [show (0 : Int) = (([] : List XTk).length : Nat) from rfl, this]
theorem catT_BB {sp : Txt} : ∀ {Es : List XE}, (∀ e ∈ Es, BB e.body e.tx) → BB (catT sp Es) (Es.map XE.tx).flatten
  | [], _ => BB.nil
  | e :: Es, h => by
    rw [catT_cons]
    exact BB.app (BB.el (h e (List.mem_cons_self ..))) (catT_BB fun d hd => h d (List.mem_cons_of_mem _ hd))
/-- elements that are read as they are written -/
structure XE.Ok (k : Nat) (sp : Txt) (e : XE) : Prop where
  b : BB e.body e.tx
  r : Rds k sp e.doc (e.toks sp)
def catD (Es : List XE) : Txt := (Es.map XE.doc).flatten
theorem catD_cons (e : XE) (Es : List XE) : catD (e :: Es) = e.doc ++ catD Es := rfl
theorem cat_rds {k : Nat} {sp : Txt} : ∀ {Es : List XE}, (∀ e ∈ Es, e.Ok k sp) → Rds k sp (catD Es) (catT sp Es)
  | [], _ => Rds.nil
  | e :: Es, h => Rds.app (h e (List.mem_cons_self ..)).r (cat_rds fun d hd => h d (List.mem_cons_of_mem _ hd))
def leafE (x s : Txt) : XE := ⟨x, [], [⟨3, [], [], s, []⟩], s, opn x ++ (s ++ cls x)⟩
def nodeE (sp x : Txt) (Es : List XE) : XE := ⟨x, [], catT sp Es, (Es.map XE.tx).flatten, opn x ++ (catD Es ++ cls x)⟩
def oneE (x : Txt) (az : List ((Txt × Txt) × Txt)) (ats : List XAt) : XE := ⟨x, ats, [], [], 60 :: (x ++ (attsT az ++ [47, 62]))⟩
theorem leaf_ok {k : Nat} {sp x s : Txt} (hk : 1 ≤ k) (hx : NmOk x) (hs : Pln s) (hne : s ≠ []) (hl : s.length ≤ 8000) : (leafE x s).Ok k sp := ⟨BB.text s, (Rds.leaf hx hs hne hl).mono hk⟩
theorem node_ok {k : Nat} {sp x : Txt} {Es : List XE} (hx : NmOk x) (h : ∀ e ∈ Es, e.Ok k sp) : (nodeE sp x Es).Ok (k + 1) sp := ⟨catT_BB fun e he => (h e he).b, Rds.el hx (cat_rds h)⟩
theorem one_ok {k : Nat} {sp x : Txt} {az : List ((Txt × Txt) × Txt)} {ats : List XAt} (hk : 1 ≤ k) (hx : NmOk x) (ha : ∀ a ∈ az, AOk a) (hd : noDup [] az = true) (hf : frOf (([], x) : Txt × Txt) az = ⟨[], x, []⟩) (hat : ∀ op, attsP ⟨[], x, []⟩ op (az.map prOf) = some ats) : (oneE x az ats).Ok k sp :=
  ⟨BB.nil, (Rds.one hx ha hd hf hat).mono hk⟩
end Go.Proofs.YtlflpbflpcmckaaGreatDoor
namespace Go.Proofs.YtlflpbflpcmckaaGreatDoor
open Go Go.Ez Go.RowKit Go.Lib
set_option linter.unusedSimpArgs false
set_option linter.unusedVariables false
/-- small letters alone -/
def pB (s : Txt) : Bool := s.all (fun c => decide (97 ≤ c.toNat) && decide (c.toNat ≤ 122)) && (decide (1 ≤ s.length) && decide (s.length ≤ 100))
theorem pB_parts {s : Txt} (h : pB s = true) : (∀ c ∈ s, 97 ≤ c.toNat ∧ c.toNat ≤ 122) ∧ s ≠ [] ∧ s.length ≤ 100 := by
  unfold pB at h
  rw [Bool.and_eq_true, Bool.and_eq_true] at h
  obtain ⟨h1, h2, h3⟩ := h
  have h2 := of_decide_eq_true h2
  have h3 := of_decide_eq_true h3
  refine ⟨fun c hc => ?_, fun e => by rw [e] at h2; exact absurd h2 (by decide), h3⟩
  have := List.all_eq_true.1 h1 c hc
  rw [Bool.and_eq_true] at this
  exact ⟨of_decide_eq_true this.1, of_decide_eq_true this.2⟩
theorem pB_pln {s : Txt} (h : pB s = true) : Pln s := fun c hc => by
  obtain ⟨h1, h2⟩ := (pB_parts h).1 c hc
  have ne : ∀ d : UInt8, d.toNat < 97 → (c == d) = false := fun d hd => by
    rw [beq_eq_false_iff_ne]
    intro e; rw [e] at h1; omega
  unfold plnB
  rw [ne 60 (by decide), ne 62 (by decide), ne 38 (by decide), ne 34 (by decide), decide_eq_true (by omega : c.toNat < 128), decide_eq_true (by omega : 32 ≤ c.toNat)]
  rfl
theorem pB_nb {s : Txt} (h : pB s = true) : ∀ c ∈ s, XRd.isBl c = false := fun c hc => by
  obtain ⟨h1, h2⟩ := (pB_parts h).1 c hc
  cases hb : XRd.isBl c with
  | false => rfl
  | true =>
    rcases (bl4 c).1 hb with e | e | e | e <;> (rw [e] at h1; exact absurd h1 (by decide))
theorem dw_none {p : UInt8 → Bool} {s : Txt} (h : ∀ c ∈ s, p c = false) : s.dropWhile p = s := by
  cases s with
  | nil => rfl
  | cons c s => rw [List.dropWhile_cons_of_neg (by rw [h c (List.mem_cons_self ..)]; decide)]
theorem trimX_nb {s : Txt} (h : ∀ c ∈ s, XRd.isBl c = false) : trimX s = s := by
  unfold trimX rtr
  rw [dw_none (s := s.reverse) (fun c hc => h c (by simpa using hc)), List.reverse_reverse, dw_none h]
theorem pB_trim {s : Txt} (h : pB s = true) : trimX s = s := trimX_nb (pB_nb h)
abbrev dateR : Txt := [48, 49, 32, 74, 97, 110, 32, 49, 57, 55, 48, 32, 48, 48, 58, 48, 49, 58, 48, 48, 32, 71, 77, 84]
abbrev dateA : Txt := [49, 57, 55, 48, 45, 48, 49, 45, 48, 49, 84, 48, 48, 58, 48, 49, 58, 48, 48, 90]
theorem whenR : whenX dateR = 60 := by decide +kernel
theorem whenA : whenX dateA = 60 := by decide +kernel
theorem when0 : whenX [] = 0 := by decide +kernel
abbrev aLnk : Txt := [32, 108, 32]
def rItem (w : Bool) (g n : Txt) : XE := nodeE [] tItem ([leafE tGuid g, leafE tTitle n, leafE tLink aLnk] ++ (if w then [leafE tPub dateR] else []))
abbrev azS : List ((Txt × Txt) × Txt) := [(([], tRel), [115, 101, 108, 102]), (([], tHref), [120])]
abbrev azL : List ((Txt × Txt) × Txt) := [(([], tHref), [108])]
def aItem (w : Bool) (g n : Txt) : XE := nodeE tAtom tEntry ([leafE tId g, leafE tTitle n, oneE tLink azS [⟨[], tRel, [115, 101, 108, 102]⟩, ⟨[], tHref, [120]⟩], oneE tLink azL [⟨[], tHref, [108]⟩]] ++ (if w then [leafE tUpd dateA] else []))
theorem nmOkB {x : Txt} (h : ((match x with | c :: _ => XRd.begs c | [] => false) && x.all XRd.goes) = true) : NmOk x := by
  rw [Bool.and_eq_true] at h
  refine ⟨?_, List.all_eq_true.1 h.2⟩
  cases x with
  | nil => exact absurd h.1 (by decide)
  | cons c r => exact ⟨c, r, rfl, h.1⟩
theorem leafB {k : Nat} {sp x s : Txt} (hk : 1 ≤ k) (hx : ((match x with | c :: _ => XRd.begs c | [] => false) && x.all XRd.goes) = true) (hs : pB s = true) : (leafE x s).Ok k sp :=
  leaf_ok hk (nmOkB hx) (pB_pln hs) (pB_parts hs).2.1 (by have := (pB_parts hs).2.2; omega)
theorem aokB {n v : Txt} (hn : ((match n with | c :: _ => XRd.begs c | [] => false) && n.all XRd.goes) = true) (hv : cleanS v = true) (hl : v.length ≤ 8000) : AOk (([], n), v) := ⟨⟨.inl rfl, nmOkB hn⟩, hv, hl⟩
theorem rItem_ok {w : Bool} {g n : Txt} (hg : pB g = true) (hn : pB n = true) : (rItem w g n).Ok 2 [] := by
  refine node_ok (k := 1) (nmOkB (by decide)) fun e he => ?_
  cases w with
  | false =>
    simp only [Bool.false_eq_true, if_false, List.append_nil, List.mem_cons, List.not_mem_nil, or_false] at he
    rcases he with rfl | rfl | rfl
    · exact leafB (by decide) (by decide) hg
    · exact leafB (by decide) (by decide) hn
    · exact leaf_ok (by decide) (nmOkB (by decide)) (pln_of (by decide)) (by decide) (by decide)
  | true =>
    simp only [if_true, List.cons_append, List.nil_append, List.mem_cons, List.not_mem_nil, or_false] at he
    rcases he with rfl | rfl | rfl | rfl
    · exact leafB (by decide) (by decide) hg
    · exact leafB (by decide) (by decide) hn
    · exact leaf_ok (by decide) (nmOkB (by decide)) (pln_of (by decide)) (by decide) (by decide)
    · exact leaf_ok (by decide) (nmOkB (by decide)) (pln_of (by decide)) (by decide) (by decide)
theorem oneS_ok {sp : Txt} : (oneE tLink azS [⟨[], tRel, [115, 101, 108, 102]⟩, ⟨[], tHref, [120]⟩]).Ok 1 sp :=
  one_ok (by decide) (nmOkB (by decide)) (by intro a ha; simp only [List.mem_cons, List.not_mem_nil, or_false] at ha; rcases ha with rfl | rfl; exact aokB (by decide) (by decide +kernel) (by decide); exact aokB (by decide) (by decide +kernel) (by decide)) (by decide) rfl fun _ => rfl
theorem oneL_ok {sp : Txt} : (oneE tLink azL [⟨[], tHref, [108]⟩]).Ok 1 sp :=
  one_ok (by decide) (nmOkB (by decide)) (by intro a ha; simp only [List.mem_cons, List.not_mem_nil, or_false] at ha; rcases ha with rfl; exact aokB (by decide) (by decide +kernel) (by decide)) (by decide) rfl fun _ => rfl
theorem aItem_ok {w : Bool} {g n : Txt} (hg : pB g = true) (hn : pB n = true) : (aItem w g n).Ok 2 tAtom := by
  refine node_ok (k := 1) (nmOkB (by decide)) fun e he => ?_
  cases w with
  | false =>
    simp only [Bool.false_eq_true, if_false, List.append_nil, List.mem_cons, List.not_mem_nil, or_false] at he
    rcases he with rfl | rfl | rfl | rfl
    · exact leafB (by decide) (by decide) hg
    · exact leafB (by decide) (by decide) hn
    · exact oneS_ok
    · exact oneL_ok
  | true =>
    simp only [if_true, List.cons_append, List.nil_append, List.mem_cons, List.not_mem_nil, or_false] at he
    rcases he with rfl | rfl | rfl | rfl | rfl
    · exact leafB (by decide) (by decide) hg
    · exact leafB (by decide) (by decide) hn
    · exact oneS_ok
    · exact oneL_ok
    · exact leaf_ok (by decide) (nmOkB (by decide)) (pln_of (by decide)) (by decide) (by decide)
/-- the text within the first element of a name -/
theorem inT_el {sp nm s1 s2 x : Txt} {ats : List XAt} {Es : List XE} (hB : ∀ e ∈ Es, BB e.body e.tx) {e : XE} {r : List XE} (h : (Es.filter fun e => decide (s2 = sp ∧ e.nm = nm)) = e :: r) (he : e ∈ Es) : inT sp nm (elT x s1 ats (catT s2 Es)) = trimX e.tx := by
  unfold inT childX
  rw [subs_el hB, h]
  exact textX_el (hB e he)
theorem inT_none {sp nm s1 s2 x : Txt} {ats : List XAt} {Es : List XE} (hB : ∀ e ∈ Es, BB e.body e.tx) (h : (Es.filter fun e => decide (s2 = sp ∧ e.nm = nm)) = []) : inT sp nm (elT x s1 ats (catT s2 Es)) = [] := by
  unfold inT childX
  rw [subs_el hB, h]
  rfl
def entOf (w : Bool) (g n : Txt) : Ent := ⟨0, g, n, [108], if w then 60 else 0⟩
theorem bb_leaf (x s : Txt) : BB (leafE x s).body (leafE x s).tx := BB.text s
theorem rItem_x {w : Bool} {g n : Txt} (hg : pB g = true) (hn : pB n = true) : itemX ((rItem w g n).toks []) = entOf w g n := by
  have key : ∀ (D : List XE) (d : Txt), (∀ e ∈ D, BB e.body e.tx) → (D.filter fun e => decide (([] : Txt) = [] ∧ e.nm = tGuid)) = [] → (D.filter fun e => decide (([] : Txt) = [] ∧ e.nm = tTitle)) = [] → (D.filter fun e => decide (([] : Txt) = [] ∧ e.nm = tLink)) = [] →
      inT [] tPub (elT tItem [] [] (catT [] ([leafE tGuid g, leafE tTitle n, leafE tLink aLnk] ++ D))) = d → itemX (elT tItem [] [] (catT [] ([leafE tGuid g, leafE tTitle n, leafE tLink aLnk] ++ D))) = ⟨0, g, n, [108], whenX d⟩ := by
    intro D d hD d1 d2 d3 hd
    have hB : ∀ e ∈ [leafE tGuid g, leafE tTitle n, leafE tLink aLnk] ++ D, BB e.body e.tx := fun e he => by
      rcases List.mem_append.1 he with he | he
      · simp only [List.mem_cons, List.not_mem_nil, or_false] at he
        rcases he with rfl | rfl | rfl <;> exact bb_leaf _ _
      · exact hD e he
    unfold itemX
    rw [hd, inT_el (e := leafE tGuid g) (r := []) hB (by rw [List.filter_append, d1]; rfl) (by simp), inT_el (e := leafE tTitle n) (r := []) hB (by rw [List.filter_append, d2]; rfl) (by simp), inT_el (e := leafE tLink aLnk) (r := []) hB (by rw [List.filter_append, d3]; rfl) (by simp)]
    show (⟨0, trimX g, trimX n, trimX aLnk, whenX d⟩ : Ent) = _
    rw [pB_trim hg, pB_trim hn]
    rfl
  cases w with
  | false =>
    refine (key [] [] (by simp) rfl rfl rfl ?_).trans ?_
    · refine inT_none (fun e he => ?_) rfl
      simp only [List.append_nil, List.mem_cons, List.not_mem_nil, or_false] at he
      rcases he with rfl | rfl | rfl <;> exact bb_leaf _ _
    · rw [when0]; rfl
  | true =>
    refine (key [leafE tPub dateR] dateR (by intro e he; rw [List.mem_singleton.1 he]; exact bb_leaf _ _) rfl rfl rfl ?_).trans ?_
    · refine (inT_el (e := leafE tPub dateR) (r := []) (fun e he => ?_) rfl (by simp)).trans rfl
      simp only [List.cons_append, List.nil_append, List.mem_cons, List.not_mem_nil, or_false] at he
      rcases he with rfl | rfl | rfl | rfl <;> exact bb_leaf _ _
    · rw [whenR]; rfl
abbrev oneS : XE := oneE tLink azS [⟨[], tRel, [115, 101, 108, 102]⟩, ⟨[], tHref, [120]⟩]
abbrev oneL : XE := oneE tLink azL [⟨[], tHref, [108]⟩]
theorem aItem_x {w : Bool} {g n : Txt} (hg : pB g = true) (hn : pB n = true) : entryX ((aItem w g n).toks tAtom) = entOf w g n := by
  have key : ∀ (D : List XE) (d : Int), (∀ e ∈ D, BB e.body e.tx) → (D.filter fun e => decide (tAtom = tAtom ∧ e.nm = tId)) = [] → (D.filter fun e => decide (tAtom = tAtom ∧ e.nm = tTitle)) = [] → (D.filter fun e => decide (tAtom = tAtom ∧ e.nm = tLink)) = [] →
      whenX (textX (dateN (elT tEntry tAtom [] (catT tAtom ([leafE tId g, leafE tTitle n, oneS, oneL] ++ D))))) = d → entryX (elT tEntry tAtom [] (catT tAtom ([leafE tId g, leafE tTitle n, oneS, oneL] ++ D))) = ⟨0, g, n, [108], d⟩ := by
    intro D d hD d1 d2 d3 hd
    have hB : ∀ e ∈ [leafE tId g, leafE tTitle n, oneS, oneL] ++ D, BB e.body e.tx := fun e he => by
      rcases List.mem_append.1 he with he | he
      · simp only [List.mem_cons, List.not_mem_nil, or_false] at he
        rcases he with rfl | rfl | rfl | rfl
        · exact bb_leaf _ _
        · exact bb_leaf _ _
        · exact BB.nil
        · exact BB.nil
      · exact hD e he
    unfold entryX
    rw [hd, inT_el (e := leafE tId g) (r := []) hB (by rw [List.filter_append, d1]; rfl) (by simp), inT_el (e := leafE tTitle n) (r := []) hB (by rw [List.filter_append, d2]; rfl) (by simp), subs_el hB, List.filter_append, d3]
    show (⟨0, trimX g, trimX n, linkGo [oneS.toks tAtom, oneL.toks tAtom], d⟩ : Ent) = _
    rw [pB_trim hg, pB_trim hn]
    rfl
  have hB2 : ∀ (D : List XE), (∀ e ∈ D, BB e.body e.tx) → ∀ e ∈ [leafE tId g, leafE tTitle n, oneS, oneL] ++ D, BB e.body e.tx := fun D hD e he => by
    rcases List.mem_append.1 he with he | he
    · simp only [List.mem_cons, List.not_mem_nil, or_false] at he
      rcases he with rfl | rfl | rfl | rfl
      · exact bb_leaf _ _
      · exact bb_leaf _ _
      · exact BB.nil
      · exact BB.nil
    · exact hD e he
  cases w with
  | false =>
    refine (key [] 0 (by simp) rfl rfl rfl ?_).trans rfl
    unfold dateN childX
    rw [subs_el (hB2 [] (by simp)), subs_el (hB2 [] (by simp))]
    exact when0
  | true =>
    have hD : ∀ e ∈ [leafE tUpd dateA], BB e.body e.tx := by intro e he; rw [List.mem_singleton.1 he]; exact bb_leaf _ _
    refine (key [leafE tUpd dateA] 60 hD rfl rfl rfl ?_).trans rfl
    unfold dateN childX
    rw [subs_el (hB2 _ hD)]
    show whenX (textX (elT tUpd tAtom [] [⟨3, [], [], dateA, []⟩])) = 60
    rw [textX_el (BB.text dateA)]
    exact whenA
def rssD (title : Txt) (Es : List XE) : Txt := opn tRss ++ ((nodeE [] tChan (leafE tTitle title :: Es)).doc ++ cls tRss)
def atomD (title : Txt) (Es : List XE) : Txt := 60 :: (tFeed ++ (attsT [(([], [120, 109, 108, 110, 115]), tAtom)] ++ 62 :: (catD (leafE tTitle title :: Es) ++ cls tFeed)))
theorem rss_tok {title : Txt} {Es : List XE} (ht : (leafE tTitle title).Ok 2 []) (hE : ∀ e ∈ Es, e.Ok 2 []) (hl : (rssD title Es).length ≤ 20000) : tokX (rssD title Es) = (elT tRss [] [] (catT [] [nodeE [] tChan (leafE tTitle title :: Es)]), 0) := by
  have hn : (nodeE [] tChan (leafE tTitle title :: Es)).Ok 3 [] := node_ok (nmOkB (by decide)) fun e he => by
    rcases List.mem_cons.1 he with rfl | he
    · exact ht
    · exact hE e he
  refine tok_root (k := 3) (sp := []) (x := tRss) (d := (nodeE [] tChan (leafE tTitle title :: Es)).doc) (az := []) (ats := []) (nmOkB (by decide)) (by simp) rfl rfl rfl ⟨by simp, by decide, fun n => rfl⟩ ?_ ?_ hl
  · have := hn.r
    have e : catT [] [nodeE [] tChan (leafE tTitle title :: Es)] = (nodeE [] tChan (leafE tTitle title :: Es)).toks [] := by rw [catT_cons]; exact List.append_nil _
    rw [e]; exact this
  · unfold rssD opn
    rfl
theorem cleanAtom : cleanS tAtom = true := by decide +kernel
theorem atom_tok {title : Txt} {Es : List XE} (ht : (leafE tTitle title).Ok 2 tAtom) (hE : ∀ e ∈ Es, e.Ok 2 tAtom) (hl : (atomD title Es).length ≤ 20000) : tokX (atomD title Es) = (elT tFeed tAtom [] (catT tAtom (leafE tTitle title :: Es)), 0) := by
  have hr : Rds 2 tAtom (catD (leafE tTitle title :: Es)) (catT tAtom (leafE tTitle title :: Es)) := cat_rds fun e he => by
    rcases List.mem_cons.1 he with rfl | he
    · exact ht
    · exact hE e he
  refine tok_root (k := 2) (sp := tAtom) (x := tFeed) (az := [(([], [120, 109, 108, 110, 115]), tAtom)]) (ats := []) (nmOkB (by decide)) ?_ (by decide) rfl rfl ⟨by simp, by show 1 + 2 ≤ 64; decide, fun n => rfl⟩ hr rfl hl
  intro a ha
  rw [List.mem_singleton.1 ha]
  exact aokB (by decide) cleanAtom (by decide)
/-- entries laid behind one another -/
def entsF (L : List Ent) : List Ent := L.foldl addX []
theorem fold_map {α : Type} (g : α → Ent) : ∀ (L : List α) (l : List Ent), L.foldl (fun l c => addX l (g c)) l = (L.map g).foldl addX l
  | [], _ => rfl
  | c :: L, l => by rw [List.foldl_cons, List.map_cons, List.foldl_cons]; exact fold_map g L _
theorem readR {title : Txt} {Es : List XE} (ht : (leafE tTitle title).Ok 2 []) (hE : ∀ e ∈ Es, e.Ok 2 []) (hn : ∀ e ∈ Es, e.nm = tItem) : readX (elT tRss [] [] (catT [] [nodeE [] tChan (leafE tTitle title :: Es)])) = ((trimX title, entsF (Es.map fun e => itemX (e.toks []))), true) := by
  have hB : ∀ e ∈ leafE tTitle title :: Es, BB e.body e.tx := fun e he => by
    rcases List.mem_cons.1 he with rfl | he
    · exact ht.b
    · exact (hE e he).b
  have hBn : ∀ e ∈ [nodeE [] tChan (leafE tTitle title :: Es)], BB e.body e.tx := fun e he => by
    rw [List.mem_singleton.1 he]; exact catT_BB hB
  have hch : childX [] tChan (elT tRss [] [] (catT [] [nodeE [] tChan (leafE tTitle title :: Es)])) = some (elT tChan [] [] (catT [] (leafE tTitle title :: Es))) := by
    unfold childX
    rw [subs_el hBn]
    rfl
  have hf1 : ((leafE tTitle title :: Es).filter fun e => decide (([] : Txt) = [] ∧ e.nm = tTitle)) = [leafE tTitle title] := by
    rw [List.filter_cons_of_pos (by show decide (([] : Txt) = [] ∧ tTitle = tTitle) = true; decide)]
    congr 1
    rw [List.filter_eq_nil_iff]
    intro e he
    rw [hn e he]; decide
  have hf2 : ((leafE tTitle title :: Es).filter fun e => decide (([] : Txt) = [] ∧ e.nm = tItem)) = Es := by
    rw [List.filter_cons_of_neg (by show ¬ decide (([] : Txt) = [] ∧ tTitle = tItem) = true; decide), List.filter_eq_self]
    intro e he
    rw [hn e he]; decide
  show readX (⟨1, [], tRss, [], []⟩ :: _) = _
  rw [readX_cons, if_pos ⟨rfl, rfl⟩]
  show ((inT [] tTitle ((childX [] tChan (elT tRss [] [] (catT [] [nodeE [] tChan (leafE tTitle title :: Es)]))).getD []), (subs [] tItem ((childX [] tChan (elT tRss [] [] (catT [] [nodeE [] tChan (leafE tTitle title :: Es)]))).getD [])).foldl (fun l c => addX l (itemX c)) []), (childX [] tChan (elT tRss [] [] (catT [] [nodeE [] tChan (leafE tTitle title :: Es)]))).isSome) = _
  rw [hch, Option.getD_some, inT_el hB hf1 (by simp), subs_el hB, hf2, fold_map, List.map_map]
  rfl
theorem readA {title : Txt} {Es : List XE} (ht : (leafE tTitle title).Ok 2 tAtom) (hE : ∀ e ∈ Es, e.Ok 2 tAtom) (hn : ∀ e ∈ Es, e.nm = tEntry) : readX (elT tFeed tAtom [] (catT tAtom (leafE tTitle title :: Es))) = ((trimX title, entsF (Es.map fun e => entryX (e.toks tAtom))), true) := by
  have hB : ∀ e ∈ leafE tTitle title :: Es, BB e.body e.tx := fun e he => by
    rcases List.mem_cons.1 he with rfl | he
    · exact ht.b
    · exact (hE e he).b
  have hf1 : ((leafE tTitle title :: Es).filter fun e => decide (tAtom = tAtom ∧ e.nm = tTitle)) = [leafE tTitle title] := by
    rw [List.filter_cons_of_pos (by show decide (tAtom = tAtom ∧ tTitle = tTitle) = true; decide)]
    congr 1
    rw [List.filter_eq_nil_iff]
    intro e he
    rw [hn e he]; decide
  have hf2 : ((leafE tTitle title :: Es).filter fun e => decide (tAtom = tAtom ∧ e.nm = tEntry)) = Es := by
    rw [List.filter_cons_of_neg (by show ¬ decide (tAtom = tAtom ∧ tTitle = tEntry) = true; decide), List.filter_eq_self]
    intro e he
    rw [hn e he]; decide
  show readX (⟨1, tAtom, tFeed, [], []⟩ :: _) = _
  rw [readX_cons, if_neg (fun h => absurd h.1 (show ¬ tAtom = ([] : Txt) by decide)), if_pos ⟨rfl, rfl⟩]
  show ((inT tAtom tTitle (elT tFeed tAtom [] (catT tAtom (leafE tTitle title :: Es))), (subs tAtom tEntry (elT tFeed tAtom [] (catT tAtom (leafE tTitle title :: Es)))).foldl (fun l c => addX l (entryX c)) []), true) = _
  rw [inT_el hB hf1 (by simp), subs_el hB, hf2, fold_map, List.map_map]
  rfl
/-- what is laid behind others, part by part -/
theorem fold_P {P : Ent → Prop} {L : List Ent} : ∀ {l : List Ent}, (∀ e ∈ l, P e) → (∀ e ∈ L, ∀ k : Int, P { e with guid := guidX e, num := k }) → ∀ e ∈ L.foldl addX l, P e := by
  induction L with
  | nil => intro l h _; exact h
  | cons c L ih =>
    intro l h hL
    rw [List.foldl_cons]
    refine ih (fun e he => ?_) fun e he => hL e (List.mem_cons_of_mem _ he)
    unfold addX at he
    split at he
    · exact h e he
    · rcases List.mem_append.1 he with he | he
      · exact h e he
      · rw [List.mem_singleton.1 he]; exact hL c (List.mem_cons_self ..) _
theorem ents_len (L : List Ent) : (entsF L).length ≤ L.length := by
  have := foldX_len id L []
  rw [List.length_nil, Nat.zero_add] at this
  exact this
theorem feed_of {p : List XTk × Int} {t : Txt} {L : List Ent} (h0 : p.2 = 0) (hr : readX p.1 = ((t, L), true)) (h1 : L.length ≤ 200) (h2 : t.length ≤ 500) (h3 : ∀ e ∈ L, longE e = false) : feedX p = ((t, L), 0) := by
  unfold feedX
  rw [if_neg (by omega), hr, if_neg (fun h => by cases h)]
  have hw : wrongX (t, L) = 0 := by
    unfold wrongX
    rw [if_neg (by simp only; omega), if_neg]
    rintro (h | h)
    · simp only at h; omega
    · obtain ⟨e, he, hx⟩ := List.any_eq_true.1 h
      rw [h3 e he] at hx; cases hx
  show (if wrongX (t, L) ≠ 0 then _ else _) = _
  rw [hw, if_neg (fun h => h rfl)]
end Go.Proofs.YtlflpbflpcmckaaGreatDoor
namespace Go.Proofs.YtlflpbflpcmckaaGreatDoor
open Go Go.Ez Go.RowKit Go.Lib
set_option linter.unusedSimpArgs false
set_option linter.unusedVariables false
theorem catD_snoc (Es : List XE) (e : XE) : catD (Es ++ [e]) = catD Es ++ e.doc := by unfold catD; simp
def dR (w : Bool) : Txt := if w then [60, 112, 117, 98, 68, 97, 116, 101, 62, 48, 49, 32, 74, 97, 110, 32, 49, 57, 55, 48, 32, 48, 48, 58, 48, 49, 58, 48, 48, 32, 71, 77, 84, 60, 47, 112, 117, 98, 68, 97, 116, 101, 62] else []
def dA (w : Bool) : Txt := if w then [60, 117, 112, 100, 97, 116, 101, 100, 62, 49, 57, 55, 48, 45, 48, 49, 45, 48, 49, 84, 48, 48, 58, 48, 49, 58, 48, 48, 90, 60, 47, 117, 112, 100, 97, 116, 101, 100, 62] else []
abbrev l1 : Txt := [60, 105, 116, 101, 109, 62, 60, 103, 117, 105, 100, 62]
abbrev l2 : Txt := [60, 47, 103, 117, 105, 100, 62, 60, 116, 105, 116, 108, 101, 62]
abbrev l3 : Txt := [60, 47, 116, 105, 116, 108, 101, 62, 60, 108, 105, 110, 107, 62, 32, 108, 32, 60, 47, 108, 105, 110, 107, 62]
abbrev l4 : Txt := [60, 47, 105, 116, 101, 109, 62]
abbrev m1 : Txt := [60, 101, 110, 116, 114, 121, 62, 60, 105, 100, 62]
abbrev m2 : Txt := [60, 47, 105, 100, 62, 60, 116, 105, 116, 108, 101, 62]
abbrev m3 : Txt := [60, 47, 116, 105, 116, 108, 101, 62, 60, 108, 105, 110, 107, 32, 114, 101, 108, 61, 34, 115, 101, 108, 102, 34, 32, 104, 114, 101, 102, 61, 34, 120, 34, 47, 62, 60, 108, 105, 110, 107, 32, 104, 114, 101, 102, 61, 34, 108, 34, 47, 62]
abbrev m4 : Txt := [60, 47, 101, 110, 116, 114, 121, 62]
theorem rItem_doc (w : Bool) (g n : Txt) : l1 ++ g ++ l2 ++ n ++ l3 ++ dR w ++ l4 = (rItem w g n).doc := by
  cases w <;> simp [rItem, nodeE, catD, leafE, opn, cls, dR]
theorem aItem_doc (w : Bool) (g n : Txt) : m1 ++ g ++ m2 ++ n ++ m3 ++ dA w ++ m4 = (aItem w g n).doc := by
  have e1 : attsT azS = [32, 114, 101, 108, 61, 34, 115, 101, 108, 102, 34, 32, 104, 114, 101, 102, 61, 34, 120, 34] := rfl
  have e2 : attsT azL = [32, 104, 114, 101, 102, 61, 34, 108, 34] := rfl
  cases w <;> simp [aItem, nodeE, catD, leafE, oneE, opn, cls, dA, e1, e2]
theorem dR_len (w : Bool) : (dR w).length ≤ 50 := by cases w <;> decide
theorem dA_len (w : Bool) : (dA w).length ≤ 50 := by cases w <;> decide
theorem rItem_len {w : Bool} {g n : Txt} (hg : g.length ≤ 100) (hn : n.length ≤ 100) : (rItem w g n).doc.length ≤ 500 := by
  rw [← rItem_doc]
  have := dR_len w
  simp only [List.length_append, List.length_cons, List.length_nil]
  omega
theorem aItem_len {w : Bool} {g n : Txt} (hg : g.length ≤ 100) (hn : n.length ≤ 100) : (aItem w g n).doc.length ≤ 500 := by
  rw [← aItem_doc]
  have := dA_len w
  simp only [List.length_append, List.length_cons, List.length_nil]
  omega
theorem catD_len {M : Nat} : ∀ {Es : List XE}, (∀ e ∈ Es, e.doc.length ≤ M) → (catD Es).length ≤ Es.length * M
  | [], _ => Nat.zero_le _
  | e :: Es, h => by
    have h1 := h e (List.mem_cons_self ..)
    have h2 := catD_len (M := M) (Es := Es) fun d hd => h d (List.mem_cons_of_mem _ hd)
    rw [catD_cons, List.length_append, List.length_cons, Nat.succ_mul]
    omega
theorem addX_ent {L : List Ent} {w : Bool} {g n : Txt} (hg : g ≠ []) : addX L (entOf w g n) = if g ∈ L.map Ent.guid then L else L ++ [⟨L.length, g, n, [108], if w then 60 else 0⟩] := by
  have e : guidX (entOf w g n) = g := by unfold guidX entOf; rw [if_neg hg]
  unfold addX
  rw [e]
  have hiff : (g = [] ∨ (L.any fun x => decide (x.guid = g)) = true) ↔ g ∈ L.map Ent.guid := by
    rw [List.any_eq_true, List.mem_map]
    constructor
    · rintro (h | ⟨x, hx, h⟩)
      · exact absurd h hg
      · exact ⟨x, hx, by simpa using h⟩
    · rintro ⟨x, hx, h⟩
      exact .inr ⟨x, hx, by simpa using h⟩
  by_cases h : g ∈ L.map Ent.guid
  · rw [if_pos (hiff.2 h), if_pos h]
  · rw [if_neg (fun hh => h (hiff.1 hh)), if_neg h]; rfl
def zEnt (w : Bool) (zl : List (Txt × Txt)) : List Ent := entsF (zl.map fun p => entOf w p.1 p.2)
theorem zEnt_snoc (w : Bool) (zl : List (Txt × Txt)) (p : Txt × Txt) : zEnt w (zl ++ [p]) = addX (zEnt w zl) (entOf w p.1 p.2) := by
  unfold zEnt entsF
  rw [List.map_append, List.foldl_append]; rfl
theorem zEnt_len (w : Bool) (zl : List (Txt × Txt)) : (zEnt w zl).length ≤ zl.length := by
  have := ents_len (zl.map fun p => entOf w p.1 p.2)
  rw [List.length_map] at this
  exact this
section
variable {w0 W W' : World} {G : Nat → Prop} {l R R1 R2 : List As} {RR : Value → World → Prop} {s u title : Txt} {v va vb vi vn f : Value} {L M : List Ent} {ids names : List Txt} {x y : Ent} {i n b : Nat} {wh : Bool}
theorem pl_spec (hs : s.length ≤ 9223372036854775807) (k : RR (.bool (pB s)) W) : CallF Tryz.prog 9 #[strV s] W RR := by
  refine sh9_calls ?_
  unfold sh9
  refine lpx (α := Nat) (fun i => [nV .i64 i]) (fun i W' => i ≤ s.length ∧ (s.all fun c => decide (97 ≤ c.toNat) && decide (c.toNat ≤ 122)) = ((s.drop i).all fun c => decide (97 ≤ c.toNat) && decide (c.toNat ≤ 122)) ∧ W' = W) (fun i => s.length - i) 0 (fun _ => rfl) rfl ⟨Nat.zero_le _, rfl, rfl⟩ ?_
  rintro next i W1 hnext ⟨q1, q2, rfl⟩
  refine app1 ?_
  have no : ((s.drop i).all fun c => decide (97 ≤ c.toNat) && decide (c.toNat ≤ 122)) = false → RR (.bool false) W1 := fun hf => by
    unfold pB at k
    rw [q2, hf, Bool.false_and] at k
    exact k
  refine x_len (a_lss (ifd (fun hc => ?_) fun hc => ?_))
  · have hi : i < s.length := by omega
    have ga : s[i]? = some s[i] := List.getElem?_eq_getElem hi
    have hdr : s.drop i = s[i] :: s.drop (i + 1) := List.drop_eq_getElem_cons hi
    generalize s[i] = c at ga hdr
    rw [hdr, List.all_cons] at q2 no
    have h8 := c.toNat_lt
    refine x_index ga (a_lss (ifd (fun h1 => no ?_) fun h1 => ?_))
    · rw [decide_eq_false (by omega : ¬ 97 ≤ c.toNat)]; rfl
    refine x_index ga (a_gtr (ifd (fun h2 => no ?_) fun h2 => ?_))
    · rw [decide_eq_false (by omega : ¬ c.toNat ≤ 122), Bool.and_false]; rfl
    rw [decide_eq_true (by omega : 97 ≤ c.toNat), decide_eq_true (by omega : c.toNat ≤ 122), Bool.true_and, Bool.true_and] at q2
    refine a_add64 (by omega) (by omega) ⟨rfl, ?_⟩
    rw [show ((i : Int) + 1) = ((i + 1 : Nat) : Int) by push_cast; rfl]
    exact hnext (i + 1) _ (by omega) ⟨by omega, q2, rfl⟩
  · rw [List.drop_of_length_le (by omega)] at q2
    have ht : (s.all fun c => decide (97 ≤ c.toNat) && decide (c.toNat ≤ 122)) = true := q2
    unfold pB at k
    rw [ht, Bool.true_and] at k
    refine x_len (a_geq (ifd (fun h1 => ?_) fun h1 => ?_))
    · refine x_len (a_leq ?_)
      rw [decide_eq_true (by omega : 1 ≤ s.length), Bool.true_and] at k
      have : decide ((s.length : Int) ≤ 100) = decide (s.length ≤ 100) := by rw [Bool.eq_iff_iff, decide_eq_true_iff, decide_eq_true_iff]; omega
      rw [this]; exact k
    · rw [decide_eq_false (by omega : ¬ 1 ≤ s.length), Bool.false_and] at k
      exact k
abbrev rP0 (title : Txt) : Txt := [60, 114, 115, 115, 62, 60, 99, 104, 97, 110, 110, 101, 108, 62, 60, 116, 105, 116, 108, 101, 62, 32] ++ title ++ [10, 60, 47, 116, 105, 116, 108, 101, 62]
abbrev aP0 (title : Txt) : Txt := [60, 102, 101, 101, 100, 32, 120, 109, 108, 110, 115, 61, 34, 104, 116, 116, 112, 58, 47, 47, 119, 119, 119, 46, 119, 51, 46, 111, 114, 103, 47, 50, 48, 48, 53, 47, 65, 116, 111, 109, 34, 62, 60, 116, 105, 116, 108, 101, 62] ++ title ++ [60, 47, 116, 105, 116, 108, 101, 62]
def rEs (w : Bool) (zl : List (Txt × Txt)) : List XE := zl.map fun p => rItem w p.1 p.2
def aEs (w : Bool) (zl : List (Txt × Txt)) : List XE := zl.map fun p => aItem w p.1 p.2
theorem rssD_eq (title : Txt) (Es : List XE) : rP0 title ++ catD Es ++ [60, 47, 99, 104, 97, 110, 110, 101, 108, 62, 60, 47, 114, 115, 115, 62] = rssD (32 :: title ++ [10]) Es := by
  unfold rssD nodeE
  simp [catD_cons, leafE, opn, cls]
theorem atomD_eq (title : Txt) (Es : List XE) : aP0 title ++ catD Es ++ [60, 47, 102, 101, 101, 100, 62] = atomD title Es := by
  have e1 : attsT [(([], [120, 109, 108, 110, 115]), tAtom)] = [32, 120, 109, 108, 110, 115, 61, 34, 104, 116, 116, 112, 58, 47, 47, 119, 119, 119, 46, 119, 51, 46, 111, 114, 103, 47, 50, 48, 48, 53, 47, 65, 116, 111, 109, 34] := rfl
  unfold atomD
  simp [catD_cons, leafE, opn, cls, e1]
abbrev KdL (L : List Ent) (vw vm : Value) (l : List As) : List As := Ky vw (EnS L) :: Ky vm (Ow 9 1 L.length (L.map fun e => strV e.guid)) :: l
theorem longOf {w : Bool} {zl : List (Txt × Txt)} (h : ∀ p ∈ zl, pB p.1 = true ∧ pB p.2 = true) : ∀ e ∈ zEnt w zl, longE e = false := by
  unfold zEnt entsF
  refine fold_P (P := fun e => longE e = false) (by simp) fun e he k => ?_
  obtain ⟨p, hp, rfl⟩ := List.mem_map.1 he
  have h1 := (pB_parts (h p hp).1).2
  have h2 := (pB_parts (h p hp).2).2
  have e1 : guidX (entOf w p.1 p.2) = p.1 := by unfold guidX entOf; rw [if_neg h1.1]
  rw [e1]
  unfold longE entOf
  refine decide_eq_false ?_
  show ¬ 500 < max (max p.1.length p.2.length) 1
  have := h1.2
  have := h2.2
  omega
theorem zl_get {i : Nat} {g n : Txt} (h1 : ids[i]? = some g) (h2 : names[i]? = some n) : (ids.zip names)[i]? = some (g, n) := by
  rw [List.getElem?_zip_eq_some]; exact ⟨h1, h2⟩
theorem fkinds_law (hT : XTabs w0) (hlt : title.length ≤ 9223372036854775807) (hi : Sl w0 1 vi ids.length (ids.map strV)) (hn : Sl w0 1 vn names.length (names.map strV)) (hli : ∀ s ∈ ids, s.length ≤ 9223372036854775807) (hln : ∀ s ∈ names, s.length ≤ 9223372036854775807)
    (h : St w0 G0 [] W) (k : ∀ W', St w0 G0 [] W' → RR (.bool true) W') : CallF Tryz.prog 6 #[strV title, vi, vn, .bool wh] W RR := by
  refine sh6_calls ?_
  unfold sh6
  have out : ∀ {l : List As} {W : World}, St w0 G0 l W → CallF Tryz.prog 8 #[] W fun t w => RR t w := fun {l W} h => ffirst_spec hT h fun W h => k W h.to
  refine ffirst_spec hT h fun W h => a_not (iff' ?_)
  refine pl_spec hlt (a_not (ifnb (fun _ => out h) fun hpt => ?_))
  refine x_lenS hi (a_gtr (ifd (fun _ => out h) fun h30 => ?_))
  refine x_lenS hn (x_lenS hi (w_neq (ifd (fun _ => out h) fun hnl => ?_)))
  have hl2 : names.length = ids.length := by omega
  have htl := (pB_parts hpt).2.2
  refine a_cat (m := title) (by simp only [List.length_cons, List.length_nil]; omega) (a_cat (by simp only [List.length_append, List.length_cons, List.length_nil]; omega) ?_)
  refine a_cat (m := title) (by simp only [List.length_cons, List.length_nil]; omega) (a_cat (by simp only [List.length_append, List.length_cons, List.length_nil]; omega) ?_)
  have h0 : St w0 G0 (KdL [] (.slice none 0 0) (.slice none 0 0) []) W := h.nilOw.nilOw
  clear h
  refine lpx (α := Nat × Value × Value) (fun A => [strV (rP0 title ++ catD (rEs wh ((ids.zip names).take A.1))), strV (aP0 title ++ catD (aEs wh ((ids.zip names).take A.1))), A.2.1, A.2.2, nV .i64 A.1])
    (fun A W' => A.1 ≤ ids.length ∧ (∀ p ∈ (ids.zip names).take A.1, pB p.1 = true ∧ pB p.2 = true) ∧ Cel1 A.2.1 ∧ Cel1 A.2.2 ∧ St w0 G0 (KdL (zEnt wh ((ids.zip names).take A.1)) A.2.1 A.2.2 []) W') (fun A => ids.length - A.1) (0, .slice none 0 0, .slice none 0 0) (fun _ => rfl) (by simp [rEs, aEs, catD]) ⟨Nat.zero_le _, by simp, ⟨rfl⟩, ⟨rfl⟩, h0⟩ ?_
  clear h0
  rintro next ⟨i, vw, vm⟩ W1 hnext ⟨q1, q2, ow, om, h⟩
  simp only at q1 q2 ow om h
  refine app5 ?_
  have rlen : (catD (rEs wh ((ids.zip names).take i))).length ≤ 30 * 500 := by
    refine Nat.le_trans (catD_len (M := 500) fun e he => ?_) ?_
    · obtain ⟨p, hp, rfl⟩ := List.mem_map.1 he
      exact rItem_len (pB_parts (q2 p hp).1).2.2 (pB_parts (q2 p hp).2).2.2
    · refine Nat.mul_le_mul_right _ ?_
      unfold rEs
      rw [List.length_map, List.length_take]; omega
  have alen : (catD (aEs wh ((ids.zip names).take i))).length ≤ 30 * 500 := by
    refine Nat.le_trans (catD_len (M := 500) fun e he => ?_) ?_
    · obtain ⟨p, hp, rfl⟩ := List.mem_map.1 he
      exact aItem_len (pB_parts (q2 p hp).1).2.2 (pB_parts (q2 p hp).2).2.2
    · refine Nat.mul_le_mul_right _ ?_
      unfold aEs
      rw [List.length_map, List.length_take]; omega
  refine x_lenS hi (a_lss (ifd (fun hc => ?_) fun hc => ?_))
  · have hil : i < ids.length := by omega
    have ga : ids[i]? = some ids[i] := List.getElem?_eq_getElem hil
    have gb : names[i]? = some (names[i]'(by omega)) := List.getElem?_eq_getElem (by omega)
    generalize ids[i] = g at ga
    generalize (names[i]'(by omega)) = n at gb
    have gz := zl_get ga gb
    have ca : (ids.map strV)[i]? = some (strV g) := by rw [List.getElem?_map, ga]; rfl
    have cb : (names.map strV)[i]? = some (strV n) := by rw [List.getElem?_map, gb]; rfl
    refine x_at (hi.below h.low) ca ?_
    refine pl_spec (hli g (List.mem_of_getElem? ga)) (a_not (ifnb (fun _ => out h) fun hpg => ?_))
    refine x_at (hn.below h.low) cb ?_
    refine pl_spec (hln n (List.mem_of_getElem? gb)) (a_not (ifnb (fun _ => out h) fun hpn => ?_))
    obtain ⟨_, hg0, hgl⟩ := pB_parts hpg
    obtain ⟨_, hn0, hnl2⟩ := pB_parts hpn
    have tk : (ids.zip names).take (i + 1) = (ids.zip names).take i ++ [(g, n)] := by rw [List.take_add_one, gz]; rfl
    have zlen : (zEnt wh ((ids.zip names).take i)).length ≤ 30 := by
      refine Nat.le_trans (zEnt_len _ _) ?_
      rw [List.length_take]; omega
    have zst := zEnt_snoc wh ((ids.zip names).take i) (g, n)
    rw [← tk] at zst
    have zst2 : zEnt wh ((ids.zip names).take (i + 1)) = if g ∈ (zEnt wh ((ids.zip names).take i)).map Ent.guid then zEnt wh ((ids.zip names).take i) else zEnt wh ((ids.zip names).take i) ++ [⟨(zEnt wh ((ids.zip names).take i)).length, g, n, [108], if wh then 60 else 0⟩] := zst.trans (addX_ent hg0)
    clear zst
    have rst : rP0 title ++ catD (rEs wh ((ids.zip names).take (i + 1))) = rP0 title ++ catD (rEs wh ((ids.zip names).take i)) ++ (l1 ++ g ++ l2 ++ n ++ l3 ++ dR wh ++ l4) := by
      rw [rItem_doc, tk]
      unfold rEs
      rw [List.map_append, List.map_singleton, catD_snoc, List.append_assoc (rP0 title)]
    have ast : aP0 title ++ catD (aEs wh ((ids.zip names).take (i + 1))) = aP0 title ++ catD (aEs wh ((ids.zip names).take i)) ++ (m1 ++ g ++ m2 ++ n ++ m3 ++ dA wh ++ m4) := by
      rw [aItem_doc, tk]
      unfold aEs
      rw [List.map_append, List.map_singleton, catD_snoc, List.append_assoc (aP0 title)]
    have q2' : ∀ p ∈ (ids.zip names).take (i + 1), pB p.1 = true ∧ pB p.2 = true := fun p hp => by
      rw [tk] at hp
      rcases List.mem_append.1 hp with hp | hp
      · exact q2 p hp
      · rw [List.mem_singleton.1 hp]; exact ⟨hpg, hpn⟩
    have nx : ∀ vw vm W, Cel1 vw → Cel1 vm → St w0 G0 (KdL (zEnt wh ((ids.zip names).take (i + 1))) vw vm []) W → appN 5 next [strV (rP0 title ++ catD (rEs wh ((ids.zip names).take i)) ++ (l1 ++ g ++ l2 ++ n ++ l3 ++ dR wh ++ l4)), strV (aP0 title ++ catD (aEs wh ((ids.zip names).take i)) ++ (m1 ++ g ++ m2 ++ n ++ m3 ++ dA wh ++ m4)), vw, vm, nV .i64 (i + 1)] W := fun vw vm W o1 o2 h => by
      rw [← rst, ← ast]
      exact hnext (i + 1, vw, vm) W (by simp only; omega) ⟨by simp only; omega, q2', o1, o2, h⟩
    clear hnext rst ast
    generalize zEnt wh ((ids.zip names).take i) = L at *
    generalize zEnt wh ((ids.zip names).take (i + 1)) = L' at *
    generalize catD (rEs wh ((ids.zip names).take i)) = cr at *
    generalize catD (aEs wh ((ids.zip names).take i)) = ca' at *
    refine jni (fun vs W' => vs = [strV title, vi, vn, .bool wh, strV (rP0 title ++ cr), strV (aP0 title ++ ca'), vw, vm, nV .i64 i, strV (dR wh), strV (dA wh), .int .i64 (if wh then 60 else 0)] ∧ St w0 G0 (KdL L vw vm []) W') ?_ ?_
    · rintro vs W _ ⟨rfl, h⟩
      refine app12 ?_
      have dl := dR_len wh
      have dl2 := dA_len wh
      generalize dR wh = dr at *
      generalize dA wh = da at *
      refine ⟨fun w => Below w0.heap.size w0 w, h.drew.low, ?_⟩
      replace h := h.drew
      have hSi : ∀ w, Below w0.heap.size w0 w → Sl w 1 vi ids.length (ids.map strV) := fun w hw => hi.below hw
      have hSn : ∀ w, Below w0.heap.size w0 w → Sl w 1 vn names.length (names.map strV) := fun w hw => hn.below hw
      refine x_sat (hSi _ h.low) hSi ca ?_
      refine a_cat (l := l1) (m := g) (by simp only [List.length_cons, List.length_nil]; omega) (a_cat (m := l2) (by simp only [List.length_append, List.length_cons, List.length_nil]; omega) ?_)
      refine x_sat (hSn _ h.low) hSn cb ?_
      refine a_cat (m := n) (by simp only [List.length_append, List.length_cons, List.length_nil]; omega) (a_cat (m := l3) (by simp only [List.length_append, List.length_cons, List.length_nil]; omega) ?_)
      refine a_cat (m := dr) (by simp only [List.length_append, List.length_cons, List.length_nil]; omega) (a_cat (m := l4) (by simp only [List.length_append, List.length_cons, List.length_nil]; omega) ?_)
      refine a_cat (l := rP0 title ++ cr) (by simp only [List.length_append, List.length_cons, List.length_nil]; omega) ?_
      refine ⟨fun w => Below w0.heap.size w0 w, h.drew.low, ?_⟩
      replace h := h.drew
      refine x_sat (hSi _ h.low) hSi ca ?_
      refine a_cat (l := m1) (m := g) (by simp only [List.length_cons, List.length_nil]; omega) (a_cat (m := m2) (by simp only [List.length_append, List.length_cons, List.length_nil]; omega) ?_)
      refine x_sat (hSn _ h.low) hSn cb ?_
      refine a_cat (m := n) (by simp only [List.length_append, List.length_cons, List.length_nil]; omega) (a_cat (m := m3) (by simp only [List.length_append, List.length_cons, List.length_nil]; omega) ?_)
      refine a_cat (m := da) (by simp only [List.length_append, List.length_cons, List.length_nil]; omega) (a_cat (m := m4) (by simp only [List.length_append, List.length_cons, List.length_nil]; omega) ?_)
      refine a_cat (l := aP0 title ++ ca') (by simp only [List.length_append, List.length_cons, List.length_nil]; omega) ?_
      refine jni (fun vs W' => ∃ vw2 vm2, vs = [strV title, vi, vn, .bool wh, strV (rP0 title ++ cr ++ (l1 ++ g ++ l2 ++ n ++ l3 ++ dr ++ l4)), strV (aP0 title ++ ca' ++ (m1 ++ g ++ m2 ++ n ++ m3 ++ da ++ m4)), vw2, vm2, nV .i64 i] ∧ Cel1 vw2 ∧ Cel1 vm2 ∧ St w0 G0 (KdL L' vw2 vm2 []) W') ?_ ?_
      · rintro vs W _ ⟨vw2, vm2, rfl, o1, o2, h⟩
        refine app9 (a_add64 (by omega) (by omega) ⟨rfl, rfl, rfl, rfl, ?_⟩)
        rw [show ((i : Int) + 1) = ((i + 1 : Nat) : Int) by push_cast; rfl]
        exact nx vw2 vm2 W o1 o2 h
      refine x_at (hi.below h.low) ca ?_
      have hsm := h.osl (v := vm)
      rw [show (L.map fun e => strV e.guid) = (L.map Ent.guid).map strV by rw [List.map_map]; rfl, ← List.length_map (f := Ent.guid)] at hsm
      refine lhas_spec (a := L.map Ent.guid) (s := g) hsm (by rw [List.length_map]; omega) (a_not ?_)
      by_cases hin : g ∈ L.map Ent.guid
      · rw [decide_eq_true hin]
        rw [if_pos hin] at zst2
        subst zst2
        exact iff' ⟨vw, vm, rfl, ow, om, h⟩
      · rw [decide_eq_false hin]
        rw [if_neg hin] at zst2
        subst zst2
        refine ift ?_
        have hE : ∀ w, Below W1.heap.size W1 w → True := fun _ _ => trivial
        refine ⟨fun w => Below w0.heap.size w0 w, h.drew.low, ?_⟩
        have hsw := h.osl (v := vw)
        replace h := h.drew
        refine x_lenSs hsw ?_
        refine x_sat (hSi _ h.low) hSi ca ?_
        refine x_sat (hSn _ h.low) hSn cb ?_
        generalize hEe : (⟨L.length, g, n, [108], if wh then 60 else 0⟩ : Ent) = E
        refine x_bld (cells := (entC ⟨L.length, g, n, [108], if wh then 60 else 0⟩).toArray) (by kernel_rfl) ?_
        rw [hEe]
        refine h.lit fun u1 W w1 h => ?_
        refine h.app (v := vw) (h.osl (v := u1)) (entC_one E) (by unfold maxLen; omega) (by omega) fun vw2 W o1 h _ => ?_
        refine x_at (hi.below h.low) ca ?_
        refine h.push (v := vm) (x := strV g) (by unfold maxLen; omega) (by omega) fun vm2 W o2 h _ => ?_
        have e1 : L.length + 1 = (L ++ [E]).length := by simp
        have e2 : rcells entC L ++ entC E = rcells entC (L ++ [E]) := by rw [rc_append, rc_single]
        have e3 : (L.map fun e => strV e.guid) ++ [strV g] = (L ++ [E]).map fun e => strV e.guid := by rw [List.map_append, ← hEe]; rfl
        rw [e2, e3, e1] at h
        exact ⟨vw2, vm2, rfl, o1, o2, h.to⟩
    · cases wh with
      | true => exact ift ⟨rfl, h⟩
      | false => exact iff' ⟨rfl, h⟩
  · have hil : i = ids.length := by omega
    subst hil
    clear hnext hc q1
    have tk : (ids.zip names).take ids.length = ids.zip names := List.take_of_length_le (by rw [List.length_zip]; omega)
    rw [tk] at q2 h rlen alen ⊢
    refine a_cat (m := [60, 47, 99, 104, 97, 110, 110, 101, 108, 62, 60, 47, 114, 115, 115, 62]) (by simp only [List.length_append, List.length_cons, List.length_nil]; omega) ?_
    refine a_cat (m := [60, 47, 102, 101, 101, 100, 62]) (by simp only [List.length_append, List.length_cons, List.length_nil]; omega) ?_
    rw [rssD_eq, atomD_eq]
    refine x_len (a_gtr (ifd (fun _ => out h) fun hrl => ?_))
    refine x_len (a_gtr (ifd (fun _ => out h) fun hal => ?_))
    have ht1 : (leafE tTitle (32 :: title ++ [10])).Ok 2 [] := by
      refine leaf_ok (by decide) (nmOkB (by decide)) ?_ (by simp) (by simp; omega)
      intro c hc
      rcases List.mem_append.1 hc with hc | hc
      · rcases List.mem_cons.1 hc with rfl | hc
        · decide
        · exact pB_pln hpt c hc
      · rw [List.mem_singleton.1 hc]; decide
    have ht2 : (leafE tTitle title).Ok 2 tAtom := leafB (by decide) (by decide) hpt
    have hrE : ∀ e ∈ rEs wh (ids.zip names), e.Ok 2 [] := fun e he => by
      obtain ⟨p, hp, rfl⟩ := List.mem_map.1 he
      exact rItem_ok (q2 p hp).1 (q2 p hp).2
    have haE : ∀ e ∈ aEs wh (ids.zip names), e.Ok 2 tAtom := fun e he => by
      obtain ⟨p, hp, rfl⟩ := List.mem_map.1 he
      exact aItem_ok (q2 p hp).1 (q2 p hp).2
    have hrn : ∀ e ∈ rEs wh (ids.zip names), e.nm = tItem := fun e he => by
      obtain ⟨p, hp, rfl⟩ := List.mem_map.1 he
      rfl
    have han : ∀ e ∈ aEs wh (ids.zip names), e.nm = tEntry := fun e he => by
      obtain ⟨p, hp, rfl⟩ := List.mem_map.1 he
      rfl
    have hrm : (rEs wh (ids.zip names)).map (fun e => itemX (e.toks [])) = (ids.zip names).map fun p => entOf wh p.1 p.2 := by
      unfold rEs
      rw [List.map_map]
      exact List.map_congr_left fun p hp => rItem_x (q2 p hp).1 (q2 p hp).2
    have ham : (aEs wh (ids.zip names)).map (fun e => entryX (e.toks tAtom)) = (ids.zip names).map fun p => entOf wh p.1 p.2 := by
      unfold aEs
      rw [List.map_map]
      exact List.map_congr_left fun p hp => aItem_x (q2 p hp).1 (q2 p hp).2
    have hzl : (zEnt wh (ids.zip names)).length ≤ 200 := by
      refine Nat.le_trans (zEnt_len _ _) ?_
      rw [List.length_zip]; omega
    have htr : trimX (32 :: title ++ [10]) = title := by
      have := trimX_around (a := [32]) (s := title) (b := [10]) (by unfold BlS; decide) (by unfold BlS; decide)
      rw [pB_trim hpt] at this
      exact this
    have fr : feedX (tokX (rssD (32 :: title ++ [10]) (rEs wh (ids.zip names)))) = ((title, zEnt wh (ids.zip names)), 0) := by
      rw [rss_tok ht1 hrE (by omega)]
      refine feed_of rfl ?_ hzl (by omega) (longOf q2)
      show readX (elT tRss [] [] _) = _
      rw [readR ht1 hrE hrn, hrm, htr]
      rfl
    have fa : feedX (tokX (atomD title (aEs wh (ids.zip names)))) = ((title, zEnt wh (ids.zip names)), 0) := by
      rw [atom_tok ht2 haE (by omega)]
      refine feed_of rfl ?_ hzl (by omega) (longOf q2)
      show readX (elT tFeed tAtom [] _) = _
      rw [readA ht2 haE han, ham, pB_trim hpt]
      rfl
    have hz6 : (zEnt wh (ids.zip names)).length ≤ 1000000 := by omega
    generalize zEnt wh (ids.zip names) = L at *
    generalize rssD (32 :: title ++ [10]) (rEs wh (ids.zip names)) = D1 at *
    generalize atomD title (aEs wh (ids.zip names)) = D2 at *
    refine h.ofStr fun v0 W o0 h => ?_
    refine fparse_spec (xtabs_at hT h) (s := D1) (h.rsl (v := v0)) (St.start W) fun va W ova h' => a_ext0 (a_ext1 ?_)
    replace h := h.frame1 h'
    clear h'
    rw [fr] at h ⊢
    refine h.allocS fun t17 W h => ?_
    refine h.storeS (cs' := [strV title, va]) fun W h => ?_
    replace h : St w0 G0 (Ky t17 (Fd2 title va) :: Ky va (EnS L) :: KdL L vw vm []) W := h.to
    refine h.ofStr fun v1 W o1 h => ?_
    refine fparse_spec (xtabs_at hT h) (s := D2) (h.rsl (v := v1)) (St.start W) fun vb W ovb h' => a_ext0 (a_ext1 ?_)
    replace h := h.frame1 h'
    clear h'
    rw [fa] at h ⊢
    refine h.allocS fun t19 W h => ?_
    refine h.storeS (cs' := [strV title, vb]) fun W h => ?_
    replace h : St w0 G0 (Ky t19 (Fd2 title vb) :: Ky vb (EnS L) :: Ky t17 (Fd2 title va) :: Ky va (EnS L) :: Ky vw (EnS L) :: []) W := h.to
    refine ffirst_spec hT h fun W h => ift ?_
    refine w_eql (ifd_pos rfl (w_eql (ifd_pos rfl ?_)))
    refine h.loadS (h.loadS ?_)
    have hEa : Ens W va L := h.osl (v := va)
    have hEb : Ens W vb L := h.osl (v := vb)
    have hEw : Ens W vw L := h.osl (v := vw)
    refine fdsame_spec (ta := title) (tb := title) hEa hEb hz6 (St.start W) fun W h' => ?_
    replace h := h.ext h'.low
    replace hEa := hEa.below h'.low
    replace hEw := hEw.below h'.low
    rw [decide_eq_true rfl]
    refine ift ?_
    refine a_fld0 (h.load (w_eqlL (ifd_pos rfl ?_)))
    refine a_fld0 (h.load ?_)
    refine entries_spec hEa hEw hz6 (St.start W) fun W h' => ?_
    replace h := h.ext h'.low
    rw [decide_eq_true rfl]
    exact k W h.to
end
end Go.Proofs.YtlflpbflpcmckaaGreatDoor
