/-
  DATES: digits at the front, let go: strings.TrimLeft at a set of signs.
-/
import Derived.Test.YtififikdlcohpaaDoorDtB
namespace Go.Proofs.YtififikdlcohpaaDoor
open Go Go.Ez Go.RowKit
set_option linter.unusedSimpArgs false
set_option linter.unusedVariables false
/-- a set of signs -/
def setL (l : Txt) : List Value := (List.range 256).map fun j => .bool (l.any fun c => c.toNat == j)
theorem setL_len (l : Txt) : (setL l).length = 256 := by simp [setL]
instance {l : Txt} : Len (setL l) 256 := ⟨setL_len l⟩
instance {l : Txt} : OneL (setL l) := ⟨by
  intro v hv
  unfold setL at hv
  rw [List.mem_map] at hv
  obtain ⟨j, _, rfl⟩ := hv
  rfl⟩
theorem setL_get (l : Txt) {j : Nat} (h : j < 256) : (setL l)[j]? = some (.bool (l.any fun c => c.toNat == j)) := by simp [setL, h]
theorem setL_set (l : Txt) (c : UInt8) : (setL l).set c.toNat (.bool true) = setL (l ++ [c]) := by
  have hc := c.toNat_lt
  apply List.ext_getElem?
  intro j
  by_cases hj : j < 256
  · rw [setL_get _ hj, List.getElem?_set]
    split
    · rename_i h
      subst h
      rw [if_pos (by rw [setL_len]; omega)]
      simp
    · rename_i h
      rw [setL_get _ hj]
      simp [h]
  · rw [List.getElem?_eq_none (by rw [List.length_set, setL_len]; omega), List.getElem?_eq_none (by rw [setL_len]; omega)]
theorem zc_set : Tryd.zeroCells114 = (setL []).toArray := by kernel_rfl
instance : TyS Tryd.prog 114 256 (setL []) := ⟨Tryd.isAgg114, Tryd.sizeOf114, fun w => by rw [Tryd.zeroValue114, zc_set]⟩
theorem x_arr {c : UInt8} {b : Nat} {K : Value → Prop} (k : K (.pointer (some ⟨b, c.toNat, none⟩))) : RunA Tryd.prog (Instr.indexAt 114 (.pointer (some ⟨b, 0, none⟩)) (byteV c)) K :=
  .of (fun w => by
    have hc := c.toNat_lt
    have h1 : (0 : Int) ≤ (c.toNat : Int) ∧ (c.toNat : Int) < (256 : Nat) := by omega
    simp only [Instr.indexAt, byteV, asIntOf, run_underlying Tryd.underlying114, Sem.run_bind, Sem.run_pure, Result.andThen, Instr.sureAddr, h1, and_self, if_true, Tryd.sizeOf4]
    rw [addr_add]
    simp) k
section
variable {w0 W W' : World} {G : Nat → Prop} {l R : List As} {RR : Value → World → Prop} {s p : Txt} {c : UInt8} {b : Nat}
abbrev SetO (l : Txt) : Nat → As := Ob (.cells (setL l).toArray 114 (0, 0))
theorem contains_spec [i : Has l b (SetO p) R] (h : St w0 G l W) (k : RR (.bool (p.any fun d => d.toNat == c.toNat)) W) : CallF Tryd.prog 101 #[.pointer (some ⟨b, 0, none⟩), byteV c] W RR := by
  refine sh101_calls ?_
  unfold sh101
  refine a_nil (x_arr ?_)
  have hc := c.toNat_lt
  refine w_recF Tryd.isAgg4 (h.rc (b := b) (t := 114) (cs := setL p)) (setL_get p (by omega)) ?_
  exact k
theorem makeSet_spec (h : St w0 G l W) (hp : ∀ c ∈ p, c.toNat < 128) (hl : p.length ≤ 1000) (k : ∀ W', St w0 G l W' → RR (.tuple #[.agg (setL p).toArray, .bool true]) W') : CallF Tryd.prog 96 #[strV p] W RR := by
  refine sh96_calls ?_
  unfold sh96
  refine h.allocS fun b W1 h => ?_
  refine lpx (α := Nat) (fun i => [nV .i64 i]) (fun i W' => i ≤ p.length ∧ St w0 G (Ky b (SetO (p.take i)) :: l) W') (fun i => p.length - i) 0 (fun _ => rfl) rfl ⟨Nat.zero_le _, h⟩ ?_
  clear h
  rintro next i W1 hnext ⟨hi, h⟩
  refine app1 ?_
  refine x_len (a_lss (ifd (fun hc => ?_) fun hc => ?_))
  · obtain ⟨c, hcv⟩ : ∃ c, p[i]? = some c := ⟨_, List.getElem?_eq_getElem (by omega)⟩
    refine x_index hcv ?_
    have h128 := hp c (List.mem_of_getElem? hcv)
    refine a_geq (ifd_neg (by omega) ?_)
    refine x_arr ?_
    have h8 := c.toNat_lt
    refine u_recF Tryd.isAgg4 Tryd.sizeOf4 rfl (h.rc (b := b) (t := 114) (cs := setL (p.take i))) (setL_get _ h8) fun W' hr hm => ?_
    have h2 := h.setB (b := b) (o := .cells (setL (p.take i)).toArray 114 (0, 0)) hm hr
    rw [setL_set] at h2
    refine a_add64 (by omega) (by omega) ⟨rfl, rfl, ?_⟩
    rw [show ((i : Int) + 1) = ((i + 1 : Nat) : Int) by push_cast; rfl]
    refine hnext (i + 1) W' (by omega) ⟨by omega, ?_⟩
    rw [List.take_add_one, hcv]
    exact h2
  · have he : p.take i = p := List.take_of_length_le (by omega)
    rw [he] at h
    refine h.loadS (h.storeS fun W' h => h.loadS ?_)
    exact k W' h.to
theorem trimSet_spec [i : Has l b (SetO p) R] (h : St w0 G l W) (k : RR (strV (s.dropWhile fun c => p.any fun d => d.toNat == c.toNat)) W) : CallF Tryd.prog 97 #[strV s, .pointer (some ⟨b, 0, none⟩)] W RR := by
  refine sh97_calls ?_
  unfold sh97
  refine jni (fun vs W' => vs = [strV (s.dropWhile fun c => p.any fun d => d.toNat == c.toNat)] ∧ W' = W) (by rintro vs W' _ ⟨rfl, rfl⟩; exact k) ?_
  refine lpx (α := Txt) (fun t => [strV t]) (fun t W' => (t.dropWhile fun c => p.any fun d => d.toNat == c.toNat) = (s.dropWhile fun c => p.any fun d => d.toNat == c.toNat) ∧ W' = W) List.length s (fun _ => rfl) rfl ⟨rfl, rfl⟩ ?_
  rintro next t W1 hnext ⟨ht, rfl⟩
  refine app1 ?_
  refine x_len (a_gtr (ifd (fun hc => ?_) fun hc => ?_))
  · cases t with
    | nil => simp at hc
    | cons c t =>
      refine x_index (i := 0) (c := c) rfl ?_
      refine contains_spec (p := p) h ?_
      refine a_not (ifnb (fun hp => ?_) fun hp => ?_)
      · refine ⟨?_, rfl⟩
        rw [← ht, List.dropWhile_cons_of_neg (by rw [hp]; simp)]
      · refine x_cutL (lo := 1) (by simp) ⟨rfl, ?_⟩
        refine hnext t _ (by simp) ⟨?_, rfl⟩
        rw [← ht, List.dropWhile_cons_of_pos (by exact hp)]
  · have : t = [] := List.eq_nil_of_length_eq_zero (by omega)
    subst this
    exact ⟨by rw [← ht]; rfl, rfl⟩
theorem digSet (c : UInt8) : (([48, 49, 50, 51, 52, 53, 54, 55, 56, 57] : Txt).any fun d => d.toNat == c.toNat) = isDig c := by
  have hc := c.toNat_lt
  unfold isDig
  simp only [List.any_cons, List.any_nil, Bool.or_false]
  rw [Bool.eq_iff_iff]
  simp
  omega
/-- strings.TrimLeft at the digits -/
theorem trim_spec (h : St w0 G l W) (k : ∀ W', St w0 G l W' → RR (strV (s.dropWhile isDig)) W') : CallF Tryd.prog 87 #[strV s, .string ⟨#[48, 49, 50, 51, 52, 53, 54, 55, 56, 57]⟩] W RR := by
  refine sh87_calls ?_
  unfold sh87
  refine w_eqlL (b := []) (ifd (fun hs => ?_) fun hs => ?_)
  · subst hs; exact k W h
  refine w_eqlL (a := [48, 49, 50, 51, 52, 53, 54, 55, 56, 57]) (b := []) (ifd_neg (by decide) ?_)
  refine jni (fun vs W' => vs = [strV s, strV [48, 49, 50, 51, 52, 53, 54, 55, 56, 57]] ∧ W' = W) ?_ ?_
  · rintro vs W' _ ⟨rfl, rfl⟩
    refine app2 ?_
    refine makeSet_spec h (by decide) (by decide) fun W1 h => ?_
    refine a_ext0 (a_ext1 ?_)
    refine h.allocS fun b W2 h => h.storeS fun W3 h => ift ?_
    refine trimSet_spec (p := [48, 49, 50, 51, 52, 53, 54, 55, 56, 57]) h ?_
    have := k W3 h.to
    rw [show (fun c : UInt8 => ([48, 49, 50, 51, 52, 53, 54, 55, 56, 57] : Txt).any fun d => d.toNat == c.toNat) = isDig from funext digSet]
    exact this
  · refine x_len (l := [48, 49, 50, 51, 52, 53, 54, 55, 56, 57]) (w_eql (ifd_neg (by decide) ?_))
    exact ⟨rfl, rfl⟩
end
end Go.Proofs.YtififikdlcohpaaDoor
