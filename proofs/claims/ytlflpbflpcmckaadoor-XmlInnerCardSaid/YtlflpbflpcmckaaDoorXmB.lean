/-
  XML: the reader's small methods: what each answers.
-/
import Derived.Test.YtlflpbflpcmckaaDoorXmA
namespace Go.Proofs.YtlflpbflpcmckaaDoor
open Go Go.Ez Go.RowKit Go.Lib
set_option linter.unusedSimpArgs false
set_option linter.unusedVariables false
section
variable {w0 W W' : World} {G : Nat → Prop} {l R : List As} {RR : Value → World → Prop} {t s p : Txt} {c : XC} {x : UInt8} {b n : Nat} {r : XRd}
theorem begins_spec (k : RR (.bool (XRd.begs x)) W) : CallF Tryd.prog 27 #[byteV x] W RR := by
  refine sh27_calls ?_
  unfold sh27
  have hx := x.toNat_lt
  have key : ∀ b, b = XRd.begs x → RR (.bool b) W := fun b e => by rw [e]; exact k
  have h95 : (x == 95) = decide ((x.toNat : Int) = 95) := by
    rw [Bool.eq_iff_iff, beq_iff_eq, decide_eq_true_iff, ← UInt8.toNat_inj]
    show x.toNat = 95 ↔ _
    omega
  unfold XRd.begs at key
  rw [h95] at key
  refine a_geq (ifd (fun h1 => a_leq (ifd (fun h2 => ?_) fun h2 => ?_)) fun h1 => ?_)
  · exact key _ (by simp only [show 97 ≤ x.toNat by omega, show x.toNat ≤ 122 by omega, and_self, decide_true, Bool.true_or])
  all_goals
    refine a_geq (ifd (fun h3 => a_leq (ifd (fun h4 => ?_) fun h4 => w_eql ?_)) fun h3 => w_eql ?_)
    · exact key _ (by simp only [show 65 ≤ x.toNat by omega, show x.toNat ≤ 90 by omega, and_self, decide_true, Bool.or_true, Bool.true_or])
    · exact key _ (by rw [decide_eq_false (p := 97 ≤ x.toNat ∧ x.toNat ≤ 122) (by omega), decide_eq_false (p := 65 ≤ x.toNat ∧ x.toNat ≤ 90) (by omega)]; rfl)
    · exact key _ (by rw [decide_eq_false (p := 97 ≤ x.toNat ∧ x.toNat ≤ 122) (by omega), decide_eq_false (p := 65 ≤ x.toNat ∧ x.toNat ≤ 90) (by omega)]; rfl)
theorem goes_spec (k : RR (.bool (XRd.goes x)) W) : CallF Tryd.prog 66 #[byteV x] W RR := by
  refine sh66_calls ?_
  unfold sh66
  have hx := x.toNat_lt
  have key : ∀ b, b = XRd.goes x → RR (.bool b) W := fun b e => by rw [e]; exact k
  have heq : ∀ n : Nat, n < 256 → (x == UInt8.ofNat n) = decide ((x.toNat : Int) = n) := fun n hn => by
    rw [Bool.eq_iff_iff, beq_iff_eq, decide_eq_true_iff, ← UInt8.toNat_inj, UInt8.toNat_ofNat', Nat.mod_eq_of_lt (by omega)]
    omega
  have h45 : (x == 45) = decide ((x.toNat : Int) = 45) := heq 45 (by decide)
  have h46 : (x == 46) = decide ((x.toNat : Int) = 46) := heq 46 (by decide)
  unfold XRd.goes at key
  rw [h45, h46] at key
  refine begins_spec (ifb (fun hb => ?_) fun hb => ?_)
  · exact key _ (by rw [hb]; simp)
  rw [hb] at key
  refine a_geq (ifd (fun h1 => a_leq (ifd (fun h2 => ?_) fun h2 => ?_)) fun h1 => ?_)
  · exact key _ (by simp only [show 48 ≤ x.toNat by omega, show x.toNat ≤ 57 by omega, and_self, decide_true, Bool.or_true, Bool.true_or])
  all_goals
    refine w_eql (ifd (fun h3 => ?_) fun h3 => w_eql ?_)
    · exact key _ (by rw [decide_eq_true h3]; simp)
    · exact key _ (by rw [decide_eq_false (p := 48 ≤ x.toNat ∧ x.toNat ≤ 57) (by omega), decide_eq_false h3]; rfl)
theorem good_spec {i : Int} (k : RR (.bool (XRd.good i)) W) : CallF Tryd.prog 65 #[.int .i32 i] W RR := by
  refine sh65_calls ?_
  unfold sh65
  have key : ∀ b, b = XRd.good i → RR (.bool b) W := fun b e => by rw [e]; exact k
  unfold XRd.good at key
  refine a_geq (ifd (fun h1 => key _ (decide_eq_true (.inl h1)).symm) fun h1 => w_eql (ifd (fun h2 => key _ (decide_eq_true (.inr (.inl h2))).symm) fun h2 => w_eql (ifd (fun h3 => key _ (decide_eq_true (.inr (.inr (.inl h3)))).symm) fun h3 => w_eql (key _ ?_))))
  exact decide_eq_decide.2 ⟨fun h => .inr (.inr (.inr h)), fun h => by omega⟩
theorem pre_spec (k : RR (.bool (XRd.isPre p s)) W) : CallF Tryd.prog 38 #[strV s, strV p] W RR := by
  refine sh38_calls ?_
  unfold sh38
  refine sh52_calls ?_
  unfold sh52
  refine x_len (x_len (a_geq (ifd (fun hc => ?_) fun hc => ?_)))
  · refine x_len (x_cutH (by omega) (w_eqlL ?_))
    exact k
  · have : XRd.isPre p s = false := by
      unfold XRd.isPre
      refine decide_eq_false fun e => hc ?_
      have := congrArg List.length e
      rw [List.length_take] at this
      omega
    rw [this] at k
    exact k
theorem fail_spec {e : Int} [i : Has l b (Xo r c) R] (h : St w0 G l W) (k : ∀ W', St w0 G (Ky b (Xo (r.fail e) c) :: R) W' → RR (.tuple #[]) W') : CallF Tryd.prog 26 #[.pointer (some ⟨b, 0, none⟩), .int .i64 e] W RR := by
  refine sh26_calls ?_
  unfold sh26
  replace h := h.find (k := b) (X := Xo r c)
  unfold XRd.fail at k
  (repeat (first | (with_reducible refine ift ?_) | (with_reducible refine iff' ?_) | (with_reducible refine a_lss ?_) | (with_reducible refine a_leq ?_) | (with_reducible refine a_gtr ?_) | (with_reducible refine a_geq ?_) | (with_reducible refine w_eql ?_) | (with_reducible refine w_neq ?_) | (with_reducible refine s_eql ?_) | (with_reducible refine s_neq ?_) | ((with_reducible refine a_add64 ?h0 ?h1 ?_); (case h0 => omega); (case h1 => omega);  skip) | ((with_reducible refine a_sub64 ?h0 ?h1 ?_); (case h0 => omega); (case h1 => omega);  skip) | ((with_reducible refine a_mul64 ?h0 ?h1 ?_); (case h0 => omega); (case h1 => omega);  skip) | (with_reducible refine a_notd ?_) | (with_reducible refine a_not ?_) | (with_reducible refine a_ext0 ?_) | (with_reducible refine a_ext1 ?_) | (with_reducible refine a_ext2 ?_) | (with_reducible refine x_len ?_) | (with_reducible refine x_lens ?_) | (with_reducible refine x_eqb ?_) | (with_reducible refine x_neb ?_) | (with_reducible refine x_nilP ?_) | (with_reducible refine x_nilPn ?_) | (with_reducible refine x_nilF ?_) | (with_reducible refine x_nilFF ?_) | (with_reducible refine w_eqlL ?_) | (with_reducible refine w_neqL ?_) | (with_reducible refine s_eqlL ?_) | (with_reducible refine ifnt ?_) | (with_reducible refine ifnf ?_) | (with_reducible refine x_eqB ?_) | (with_reducible refine x_neB ?_) | (with_reducible refine x_lssL ?_) | (with_reducible refine x_gtrL ?_) | (with_reducible refine x_geqL ?_) | (with_reducible refine s_neqL ?_) | (with_reducible refine St.load h ?_) | (with_reducible refine St.loadS h ?_) | (with_reducible refine a_fld0 ?_) | (with_reducible refine St.store h fun W h => ?_) | (with_reducible refine St.storeS h fun W h => ?_) | (with_reducible refine St.alloc h fun b W h => ?_) | (with_reducible refine St.allocS h fun b W h => ?_) | (with_reducible refine a_nil ?_) | (with_reducible refine ss_load ?_) | (with_reducible refine ss_loadS ?_) | (with_reducible refine ss_eqb ?_)))
  refine ifd (fun he => ?_) fun he => ?_
  · rw [if_pos he] at k
    (repeat (first | (with_reducible refine ift ?_) | (with_reducible refine iff' ?_) | (with_reducible refine a_lss ?_) | (with_reducible refine a_leq ?_) | (with_reducible refine a_gtr ?_) | (with_reducible refine a_geq ?_) | (with_reducible refine w_eql ?_) | (with_reducible refine w_neq ?_) | (with_reducible refine s_eql ?_) | (with_reducible refine s_neq ?_) | ((with_reducible refine a_add64 ?h0 ?h1 ?_); (case h0 => omega); (case h1 => omega);  skip) | ((with_reducible refine a_sub64 ?h0 ?h1 ?_); (case h0 => omega); (case h1 => omega);  skip) | ((with_reducible refine a_mul64 ?h0 ?h1 ?_); (case h0 => omega); (case h1 => omega);  skip) | (with_reducible refine a_notd ?_) | (with_reducible refine a_not ?_) | (with_reducible refine a_ext0 ?_) | (with_reducible refine a_ext1 ?_) | (with_reducible refine a_ext2 ?_) | (with_reducible refine x_len ?_) | (with_reducible refine x_lens ?_) | (with_reducible refine x_eqb ?_) | (with_reducible refine x_neb ?_) | (with_reducible refine x_nilP ?_) | (with_reducible refine x_nilPn ?_) | (with_reducible refine x_nilF ?_) | (with_reducible refine x_nilFF ?_) | (with_reducible refine w_eqlL ?_) | (with_reducible refine w_neqL ?_) | (with_reducible refine s_eqlL ?_) | (with_reducible refine ifnt ?_) | (with_reducible refine ifnf ?_) | (with_reducible refine x_eqB ?_) | (with_reducible refine x_neB ?_) | (with_reducible refine x_lssL ?_) | (with_reducible refine x_gtrL ?_) | (with_reducible refine x_geqL ?_) | (with_reducible refine s_neqL ?_) | (with_reducible refine St.load h ?_) | (with_reducible refine St.loadS h ?_) | (with_reducible refine a_fld0 ?_) | (with_reducible refine St.store h fun W h => ?_) | (with_reducible refine St.storeS h fun W h => ?_) | (with_reducible refine St.alloc h fun b W h => ?_) | (with_reducible refine St.allocS h fun b W h => ?_) | (with_reducible refine a_nil ?_) | (with_reducible refine ss_load ?_) | (with_reducible refine ss_loadS ?_) | (with_reducible refine ss_eqb ?_)))
    exact k W h
  · rw [if_neg he] at k
    exact k W h
theorem see_spec [i : Has l b (Xo r c) R] (h : St w0 G l W) (hok : r.Ok) (hs : r.s.length ≤ 1000000) (hn : n ≤ 1000) (k : ∀ W', St w0 G (Ky b (Xo (r.see n).2 c) :: R) W' → RR (byteV (r.see n).1) W') : CallF Tryd.prog 25 #[.pointer (some ⟨b, 0, none⟩), nV .i64 n] W RR := by
  refine sh25_calls ?_
  unfold sh25
  replace h := h.find (k := b) (X := Xo r c)
  have hlt := hok.lt
  refine ⟨St w0 G _, h.drew, ?_⟩
  replace h := h.drew
  (repeat (first | (with_reducible refine ift ?_) | (with_reducible refine iff' ?_) | (with_reducible refine a_lss ?_) | (with_reducible refine a_leq ?_) | (with_reducible refine a_gtr ?_) | (with_reducible refine a_geq ?_) | (with_reducible refine w_eql ?_) | (with_reducible refine w_neq ?_) | (with_reducible refine s_eql ?_) | (with_reducible refine s_neq ?_) | ((with_reducible refine a_add64 ?h0 ?h1 ?_); (case h0 => omega); (case h1 => omega);  skip) | ((with_reducible refine a_sub64 ?h0 ?h1 ?_); (case h0 => omega); (case h1 => omega);  skip) | ((with_reducible refine a_mul64 ?h0 ?h1 ?_); (case h0 => omega); (case h1 => omega);  skip) | (with_reducible refine a_notd ?_) | (with_reducible refine a_not ?_) | (with_reducible refine a_ext0 ?_) | (with_reducible refine a_ext1 ?_) | (with_reducible refine a_ext2 ?_) | (with_reducible refine x_len ?_) | (with_reducible refine x_lens ?_) | (with_reducible refine x_eqb ?_) | (with_reducible refine x_neb ?_) | (with_reducible refine x_nilP ?_) | (with_reducible refine x_nilPn ?_) | (with_reducible refine x_nilF ?_) | (with_reducible refine x_nilFF ?_) | (with_reducible refine w_eqlL ?_) | (with_reducible refine w_neqL ?_) | (with_reducible refine s_eqlL ?_) | (with_reducible refine ifnt ?_) | (with_reducible refine ifnf ?_) | (with_reducible refine x_eqB ?_) | (with_reducible refine x_neB ?_) | (with_reducible refine x_lssL ?_) | (with_reducible refine x_gtrL ?_) | (with_reducible refine x_geqL ?_) | (with_reducible refine s_neqL ?_) | (with_reducible refine St.load h ?_) | (with_reducible refine St.loadS h ?_) | (with_reducible refine a_fld0 ?_) | (with_reducible refine St.store h fun W h => ?_) | (with_reducible refine St.storeS h fun W h => ?_) | (with_reducible refine St.alloc h fun b W h => ?_) | (with_reducible refine St.allocS h fun b W h => ?_) | (with_reducible refine a_nil ?_) | (with_reducible refine ss_load ?_) | (with_reducible refine ss_loadS ?_) | (with_reducible refine ss_eqb ?_)))
  refine ifd (fun hc => ?_) fun hc => ?_
  · rw [XRd.see_none (List.getElem?_eq_none (by omega))] at k
    exact fail_spec (r := r) (c := c) h fun W h => k W h
  · have ha : r.s[r.at_ + n]? = some r.s[r.at_ + n] := List.getElem?_eq_getElem (by omega)
    generalize r.s[r.at_ + n] = x at ha
    rw [XRd.see_some ha] at k
    refine ⟨St w0 G _, h.drew, ?_⟩
    replace h := h.drew
    (repeat (first | (with_reducible refine ift ?_) | (with_reducible refine iff' ?_) | (with_reducible refine a_lss ?_) | (with_reducible refine a_leq ?_) | (with_reducible refine a_gtr ?_) | (with_reducible refine a_geq ?_) | (with_reducible refine w_eql ?_) | (with_reducible refine w_neq ?_) | (with_reducible refine s_eql ?_) | (with_reducible refine s_neq ?_) | ((with_reducible refine a_add64 ?h0 ?h1 ?_); (case h0 => omega); (case h1 => omega);  skip) | ((with_reducible refine a_sub64 ?h0 ?h1 ?_); (case h0 => omega); (case h1 => omega);  skip) | ((with_reducible refine a_mul64 ?h0 ?h1 ?_); (case h0 => omega); (case h1 => omega);  skip) | (with_reducible refine a_notd ?_) | (with_reducible refine a_not ?_) | (with_reducible refine a_ext0 ?_) | (with_reducible refine a_ext1 ?_) | (with_reducible refine a_ext2 ?_) | (with_reducible refine x_len ?_) | (with_reducible refine x_lens ?_) | (with_reducible refine x_eqb ?_) | (with_reducible refine x_neb ?_) | (with_reducible refine x_nilP ?_) | (with_reducible refine x_nilPn ?_) | (with_reducible refine x_nilF ?_) | (with_reducible refine x_nilFF ?_) | (with_reducible refine w_eqlL ?_) | (with_reducible refine w_neqL ?_) | (with_reducible refine s_eqlL ?_) | (with_reducible refine ifnt ?_) | (with_reducible refine ifnf ?_) | (with_reducible refine x_eqB ?_) | (with_reducible refine x_neB ?_) | (with_reducible refine x_lssL ?_) | (with_reducible refine x_gtrL ?_) | (with_reducible refine x_geqL ?_) | (with_reducible refine s_neqL ?_) | (with_reducible refine St.load h ?_) | (with_reducible refine St.loadS h ?_) | (with_reducible refine a_fld0 ?_) | (with_reducible refine St.store h fun W h => ?_) | (with_reducible refine St.storeS h fun W h => ?_) | (with_reducible refine St.alloc h fun b W h => ?_) | (with_reducible refine St.allocS h fun b W h => ?_) | (with_reducible refine a_nil ?_) | (with_reducible refine ss_load ?_) | (with_reducible refine ss_loadS ?_) | (with_reducible refine ss_eqb ?_)))
    refine x_index ha ?_
    exact k _ h
end
end Go.Proofs.YtlflpbflpcmckaaDoor
