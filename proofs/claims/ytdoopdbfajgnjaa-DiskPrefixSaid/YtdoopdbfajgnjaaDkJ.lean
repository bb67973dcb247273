/-
  FILES THAT FALL: DiskRooms: it returns true.
-/
import Derived.Test.YtdoopdbfajgnjaaDkI
namespace Go.Ez
open Go Go.Proofs Go.RowKit
set_option linter.unusedSimpArgs false
set_option linter.unusedVariables false
theorem gt_mem {m : Fm} (hs : Srt m) {i : Nat} {p : Txt × Txt} (h : m[i]? = some p) : gt p.1 m = p.2 := by
  unfold gt
  rw [(mem_iff_get hs).1 (show (p.1, p.2) ∈ m from List.mem_of_getElem? h)]
  rfl
theorem tot_take_succ {m : Fm} {i : Nat} {p : Txt × Txt} (h : m[i]? = some p) : tot (m.take (i + 1)) = tot (m.take i) + p.2.length := by
  rw [List.take_add_one, h, tot_append]
  simp [tot]
theorem tot_take_le (m : Fm) (i : Nat) : tot (m.take i) ≤ tot m := by
  have : tot m = tot (m.take i) + tot (m.drop i) := by rw [← tot_append, List.take_append_drop]
  omega
theorem gt_none {k : Txt} {m : Fm} (h : getK k m = none) : gt k m = [] := by unfold gt; rw [h]; rfl
theorem append_facts {d : Dd} (h : d.Q) (s b : Txt) : ((d.appendP s b).2 = 8 ↔ okN s = true ∧ d.room - tot d.now < b.length) ∧ ((d.appendP s b).2 = 11 ↔ okN s = false) ∧ (d.appendP s b).1.room = d.room ∧
    ((d.appendP s b).2 ≠ 0 → (d.appendP s b).1.now = d.now) ∧ ((d.appendP s b).2 = 0 → (getK s (d.appendP s b).1.now).isSome = true ∧ gt s (d.appendP s b).1.now = gt s d.now ++ b ∧ tot (d.appendP s b).1.now = tot d.now + b.length ∧ (b.length : Int) ≤ d.room - tot d.now) := by
  have hs := h.v.now.srt
  rw [appendP_Q h]
  cases hk : okN s
  · simp [tick_now]; rfl
  · simp only [if_true]
    by_cases hr : d.room - tot d.now < b.length
    · rw [if_pos hr]
      refine ⟨by simp [hr], by simp, rfl, fun _ => rfl, fun hx => by cases hx⟩
    · rw [if_neg hr]
      by_cases hb : b = [] ∧ (getK s d.now).isSome = true
      · rw [if_pos hb]
        refine ⟨by simp [hr], by simp, rfl, fun _ => rfl, fun _ => ⟨hb.2, ?_, ?_, by omega⟩⟩
        · rw [hb.1, List.append_nil]; rfl
        · rw [hb.1]; rfl
      · rw [if_neg hb]
        refine ⟨by simp [hr], by simp, rfl, fun hx => absurd rfl hx, fun _ => ?_⟩
        rw [does_now]
        show (getK s (putK s (gt s d.now ++ b) d.now)).isSome = true ∧ gt s (putK s (gt s d.now ++ b) d.now) = _ ∧ tot (putK s (gt s d.now ++ b) d.now) = _ ∧ _
        refine ⟨by rw [get_put hs, if_pos rfl]; rfl, by rw [gt_app hs, if_pos rfl], ?_, by omega⟩
        have := tot_put (k := s) (v := gt s d.now ++ b) hs
        rw [List.length_append] at this
        omega
theorem cut_facts {d : Dd} (h : d.Q) (s : Txt) (n : Int) : (d.cutP s n).1.room = d.room ∧ ((d.cutP s n).2 ≠ 0 → (d.cutP s n).1.now = d.now) ∧ ((d.cutP s n).2 = 0 → 0 ≤ n ∧ n ≤ (gt s d.now).length ∧ gt s (d.cutP s n).1.now = (gt s d.now).take n.toNat ∧ tot (d.cutP s n).1.now ≤ tot d.now) := by
  have hs := h.v.now.srt
  rw [cutP_Q h]
  cases hk : okN s
  · refine ⟨rfl, fun _ => rfl, fun hx => by cases hx⟩
  · simp only [if_true]
    by_cases h1 : getK s d.now = none
    · rw [if_pos h1]
      exact ⟨rfl, fun _ => rfl, fun hx => by cases hx⟩
    rw [if_neg h1]
    by_cases h2 : n < 0 ∨ (gt s d.now).length < n
    · rw [if_pos h2]
      exact ⟨rfl, fun _ => rfl, fun hx => by cases hx⟩
    rw [if_neg h2]
    have h3 : ¬ n < 0 := fun hx => h2 (.inl hx)
    have h4 : ¬ ((gt s d.now).length : Int) < n := fun hx => h2 (.inr hx)
    by_cases h5 : n = (gt s d.now).length
    · rw [if_pos h5]
      refine ⟨rfl, fun hx => absurd rfl hx, fun _ => ⟨by omega, by omega, ?_, Nat.le_refl _⟩⟩
      rw [List.take_of_length_le (by omega)]; rfl
    · rw [if_neg h5]
      refine ⟨rfl, fun hx => absurd rfl hx, fun _ => ⟨by omega, by omega, ?_, ?_⟩⟩
      · rw [does_now]
        show gt s (putK s ((gt s d.now).take n.toNat) d.now) = _
        rw [gt_app hs, if_pos rfl]
      · rw [does_now]
        show tot (putK s ((gt s d.now).take n.toNat) d.now) ≤ _
        have := tot_put (k := s) (v := (gt s d.now).take n.toNat) hs
        rw [List.length_take] at this
        omega
end Go.Ez
namespace Go.Proofs.Ytdoopdbfajgnjaa
open Go Go.Ez Go.RowKit
set_option linter.unusedSimpArgs false
set_option linter.unusedVariables false
section
variable {Wz : World} {RR : Value → World → Prop}
theorem By.cutH {W : World} {v' : Value} {x : Txt} {n : Int} (h0 : 0 ≤ n) (h1 : n ≤ x.length) (h : Sl W 1 v' n.toNat ((bytesV x).take (n.toNat * 1))) : By W v' (x.take n.toNat) := by
  have e1 : (x.take n.toNat).length = n.toNat := by rw [List.length_take]; omega
  unfold By
  rw [e1]
  have e2 : bytesV (x.take n.toNat) = (bytesV x).take (n.toNat * 1) := by rw [Nat.mul_one]; simp [bytesV, List.map_take]
  rw [e2]; exact h
/-- DiskRooms -/
theorem rooms_spec {room : Int} {oa : List OpM} {va : Value} (ha : Sl Wz 7 va oa.length (rcells opC oa)) (hfa : ∀ o ∈ oa, OpF Wz o)
    (k : ∀ W', Below Wz.heap.size Wz W' → RR (.bool true) W') : CallF Try.prog 3 #[.int .i64 room, va] Wz RR := by
  refine sh3_calls ?_
  unfold sh3
  have out : ∀ {W1 : World}, Below Wz.heap.size Wz W1 → CallF Try.prog 8 #[] W1 RR := fun hb1 => first_spec fun W2 hb2 => k W2 (Below.next hb1 hb2)
  refine first_spec fun W1 hb1 => ?_
  (repeat (first | (with_reducible refine ift ?_) | (with_reducible refine iff' ?_) | (with_reducible refine a_lss ?_) | (with_reducible refine a_leq ?_) | (with_reducible refine a_gtr ?_) | (with_reducible refine a_geq ?_) | (with_reducible refine w_eql ?_) | (with_reducible refine w_neq ?_) | (with_reducible refine s_eql ?_) | (with_reducible refine s_neq ?_) | ((with_reducible refine a_add64 ?h0 ?h1 ?_); (case h0 => omega); (case h1 => omega);  skip) | ((with_reducible refine a_sub64 ?h0 ?h1 ?_); (case h0 => omega); (case h1 => omega);  skip) | ((with_reducible refine a_mul64 ?h0 ?h1 ?_); (case h0 => omega); (case h1 => omega);  skip) | (with_reducible refine a_notd ?_) | (with_reducible refine a_not ?_) | (with_reducible refine a_ext0 ?_) | (with_reducible refine a_ext1 ?_) | (with_reducible refine a_ext2 ?_) | (with_reducible refine x_len ?_) | (with_reducible refine x_lens ?_) | (with_reducible refine x_eqb ?_) | (with_reducible refine x_neb ?_) | (with_reducible refine x_nilP ?_) | (with_reducible refine x_nilPn ?_) | (with_reducible refine x_nilF ?_) | (with_reducible refine x_nilFF ?_) | (with_reducible refine w_eqlL ?_) | (with_reducible refine w_neqL ?_) | (with_reducible refine s_eqlL ?_) | (with_reducible refine ifnt ?_) | (with_reducible refine ifnf ?_) | (with_reducible refine x_eqB ?_) | (with_reducible refine x_neB ?_) | (with_reducible refine x_lssL ?_) | (with_reducible refine x_gtrL ?_) | (with_reducible refine x_geqL ?_) | (with_reducible refine s_neqL ?_) | (with_reducible refine St.load h ?_) | (with_reducible refine St.loadS h ?_) | (with_reducible refine a_fld0 ?_) | (with_reducible refine St.store h fun W h => ?_) | (with_reducible refine St.storeS h fun W h => ?_) | (with_reducible refine St.alloc h fun b W h => ?_) | (with_reducible refine St.allocS h fun b W h => ?_) | (with_reducible refine a_nil ?_) | (with_reducible refine ss_load ?_) | (with_reducible refine ss_loadS ?_) | (with_reducible refine ss_eqb ?_)))
  refine few_spec (ha.below hb1) (fun o ho => (hfa o ho).below hb1) fun b0 hs1 => ?_
  refine a_not (ifnb (fun hx => out hb1) fun hx => ?_)
  obtain ⟨hla, hsa⟩ := hs1 hx
  refine x_lenS (ha.below hb1) (a_gtr (ifd (fun hx => out hb1) fun hx => ?_))
  have h := ((St.start Wz).ext hb1).plNil .a
  refine newd_spec [] h (fun hx => ?_) fun h0 h1 bd W2 h => ?_
  · refine a_ext0 (a_ext1 ?_)
    (repeat (first | (with_reducible refine ift ?_) | (with_reducible refine iff' ?_) | (with_reducible refine a_lss ?_) | (with_reducible refine a_leq ?_) | (with_reducible refine a_gtr ?_) | (with_reducible refine a_geq ?_) | (with_reducible refine w_eql ?_) | (with_reducible refine w_neq ?_) | (with_reducible refine s_eql ?_) | (with_reducible refine s_neq ?_) | ((with_reducible refine a_add64 ?h0 ?h1 ?_); (case h0 => omega); (case h1 => omega);  skip) | ((with_reducible refine a_sub64 ?h0 ?h1 ?_); (case h0 => omega); (case h1 => omega);  skip) | ((with_reducible refine a_mul64 ?h0 ?h1 ?_); (case h0 => omega); (case h1 => omega);  skip) | (with_reducible refine a_notd ?_) | (with_reducible refine a_not ?_) | (with_reducible refine a_ext0 ?_) | (with_reducible refine a_ext1 ?_) | (with_reducible refine a_ext2 ?_) | (with_reducible refine x_len ?_) | (with_reducible refine x_lens ?_) | (with_reducible refine x_eqb ?_) | (with_reducible refine x_neb ?_) | (with_reducible refine x_nilP ?_) | (with_reducible refine x_nilPn ?_) | (with_reducible refine x_nilF ?_) | (with_reducible refine x_nilFF ?_) | (with_reducible refine w_eqlL ?_) | (with_reducible refine w_neqL ?_) | (with_reducible refine s_eqlL ?_) | (with_reducible refine ifnt ?_) | (with_reducible refine ifnf ?_) | (with_reducible refine x_eqB ?_) | (with_reducible refine x_neB ?_) | (with_reducible refine x_lssL ?_) | (with_reducible refine x_gtrL ?_) | (with_reducible refine x_geqL ?_) | (with_reducible refine s_neqL ?_) | (with_reducible refine St.load h ?_) | (with_reducible refine St.loadS h ?_) | (with_reducible refine a_fld0 ?_) | (with_reducible refine St.store h fun W h => ?_) | (with_reducible refine St.storeS h fun W h => ?_) | (with_reducible refine St.alloc h fun b W h => ?_) | (with_reducible refine St.allocS h fun b W h => ?_) | (with_reducible refine a_nil ?_) | (with_reducible refine ss_load ?_) | (with_reducible refine ss_loadS ?_) | (with_reducible refine ss_eqb ?_)))
    refine ift ?_
    refine first_spec fun W3 hb3 => ?_
    refine ift ?_
    (repeat (first | (with_reducible refine ift ?_) | (with_reducible refine iff' ?_) | (with_reducible refine a_lss ?_) | (with_reducible refine a_leq ?_) | (with_reducible refine a_gtr ?_) | (with_reducible refine a_geq ?_) | (with_reducible refine w_eql ?_) | (with_reducible refine w_neq ?_) | (with_reducible refine s_eql ?_) | (with_reducible refine s_neq ?_) | ((with_reducible refine a_add64 ?h0 ?h1 ?_); (case h0 => omega); (case h1 => omega);  skip) | ((with_reducible refine a_sub64 ?h0 ?h1 ?_); (case h0 => omega); (case h1 => omega);  skip) | ((with_reducible refine a_mul64 ?h0 ?h1 ?_); (case h0 => omega); (case h1 => omega);  skip) | (with_reducible refine a_notd ?_) | (with_reducible refine a_not ?_) | (with_reducible refine a_ext0 ?_) | (with_reducible refine a_ext1 ?_) | (with_reducible refine a_ext2 ?_) | (with_reducible refine x_len ?_) | (with_reducible refine x_lens ?_) | (with_reducible refine x_eqb ?_) | (with_reducible refine x_neb ?_) | (with_reducible refine x_nilP ?_) | (with_reducible refine x_nilPn ?_) | (with_reducible refine x_nilF ?_) | (with_reducible refine x_nilFF ?_) | (with_reducible refine w_eqlL ?_) | (with_reducible refine w_neqL ?_) | (with_reducible refine s_eqlL ?_) | (with_reducible refine ifnt ?_) | (with_reducible refine ifnf ?_) | (with_reducible refine x_eqB ?_) | (with_reducible refine x_neB ?_) | (with_reducible refine x_lssL ?_) | (with_reducible refine x_gtrL ?_) | (with_reducible refine x_geqL ?_) | (with_reducible refine s_neqL ?_) | (with_reducible refine St.load h ?_) | (with_reducible refine St.loadS h ?_) | (with_reducible refine a_fld0 ?_) | (with_reducible refine St.store h fun W h => ?_) | (with_reducible refine St.storeS h fun W h => ?_) | (with_reducible refine St.alloc h fun b W h => ?_) | (with_reducible refine St.allocS h fun b W h => ?_) | (with_reducible refine a_nil ?_) | (with_reducible refine ss_load ?_) | (with_reducible refine ss_loadS ?_) | (with_reducible refine ss_eqb ?_)))
    exact k W3 (Below.next h.low hb3)
  refine a_ext0 (a_ext1 ?_)
  (repeat (first | (with_reducible refine ift ?_) | (with_reducible refine iff' ?_) | (with_reducible refine a_lss ?_) | (with_reducible refine a_leq ?_) | (with_reducible refine a_gtr ?_) | (with_reducible refine a_geq ?_) | (with_reducible refine w_eql ?_) | (with_reducible refine w_neq ?_) | (with_reducible refine s_eql ?_) | (with_reducible refine s_neq ?_) | ((with_reducible refine a_add64 ?h0 ?h1 ?_); (case h0 => omega); (case h1 => omega);  skip) | ((with_reducible refine a_sub64 ?h0 ?h1 ?_); (case h0 => omega); (case h1 => omega);  skip) | ((with_reducible refine a_mul64 ?h0 ?h1 ?_); (case h0 => omega); (case h1 => omega);  skip) | (with_reducible refine a_notd ?_) | (with_reducible refine a_not ?_) | (with_reducible refine a_ext0 ?_) | (with_reducible refine a_ext1 ?_) | (with_reducible refine a_ext2 ?_) | (with_reducible refine x_len ?_) | (with_reducible refine x_lens ?_) | (with_reducible refine x_eqb ?_) | (with_reducible refine x_neb ?_) | (with_reducible refine x_nilP ?_) | (with_reducible refine x_nilPn ?_) | (with_reducible refine x_nilF ?_) | (with_reducible refine x_nilFF ?_) | (with_reducible refine w_eqlL ?_) | (with_reducible refine w_neqL ?_) | (with_reducible refine s_eqlL ?_) | (with_reducible refine ifnt ?_) | (with_reducible refine ifnf ?_) | (with_reducible refine x_eqB ?_) | (with_reducible refine x_neB ?_) | (with_reducible refine x_lssL ?_) | (with_reducible refine x_gtrL ?_) | (with_reducible refine x_geqL ?_) | (with_reducible refine s_neqL ?_) | (with_reducible refine St.load h ?_) | (with_reducible refine St.loadS h ?_) | (with_reducible refine a_fld0 ?_) | (with_reducible refine St.store h fun W h => ?_) | (with_reducible refine St.storeS h fun W h => ?_) | (with_reducible refine St.alloc h fun b W h => ?_) | (with_reducible refine St.allocS h fun b W h => ?_) | (with_reducible refine a_nil ?_) | (with_reducible refine ss_load ?_) | (with_reducible refine ss_loadS ?_) | (with_reducible refine ss_eqb ?_)))
  refine iff' ?_
  (repeat (first | (with_reducible refine ift ?_) | (with_reducible refine iff' ?_) | (with_reducible refine a_lss ?_) | (with_reducible refine a_leq ?_) | (with_reducible refine a_gtr ?_) | (with_reducible refine a_geq ?_) | (with_reducible refine w_eql ?_) | (with_reducible refine w_neq ?_) | (with_reducible refine s_eql ?_) | (with_reducible refine s_neq ?_) | ((with_reducible refine a_add64 ?h0 ?h1 ?_); (case h0 => omega); (case h1 => omega);  skip) | ((with_reducible refine a_sub64 ?h0 ?h1 ?_); (case h0 => omega); (case h1 => omega);  skip) | ((with_reducible refine a_mul64 ?h0 ?h1 ?_); (case h0 => omega); (case h1 => omega);  skip) | (with_reducible refine a_notd ?_) | (with_reducible refine a_not ?_) | (with_reducible refine a_ext0 ?_) | (with_reducible refine a_ext1 ?_) | (with_reducible refine a_ext2 ?_) | (with_reducible refine x_len ?_) | (with_reducible refine x_lens ?_) | (with_reducible refine x_eqb ?_) | (with_reducible refine x_neb ?_) | (with_reducible refine x_nilP ?_) | (with_reducible refine x_nilPn ?_) | (with_reducible refine x_nilF ?_) | (with_reducible refine x_nilFF ?_) | (with_reducible refine w_eqlL ?_) | (with_reducible refine w_neqL ?_) | (with_reducible refine s_eqlL ?_) | (with_reducible refine ifnt ?_) | (with_reducible refine ifnf ?_) | (with_reducible refine x_eqB ?_) | (with_reducible refine x_neB ?_) | (with_reducible refine x_lssL ?_) | (with_reducible refine x_gtrL ?_) | (with_reducible refine x_geqL ?_) | (with_reducible refine s_neqL ?_) | (with_reducible refine St.load h ?_) | (with_reducible refine St.loadS h ?_) | (with_reducible refine a_fld0 ?_) | (with_reducible refine St.store h fun W h => ?_) | (with_reducible refine St.storeS h fun W h => ?_) | (with_reducible refine St.alloc h fun b W h => ?_) | (with_reducible refine St.allocS h fun b W h => ?_) | (with_reducible refine a_nil ?_) | (with_reducible refine ss_load ?_) | (with_reducible refine ss_loadS ?_) | (with_reducible refine ss_eqb ?_)))
  refine ifd_neg (by decide) ?_
  have q0 := newD_Q h0 h1
  have c0 : (newD room).calls = 0 := rfl
  have r0 : (newD room).room = room := rfl
  have t0 : (tot (newD room).now : Int) ≤ room := h0
  generalize newD room = d0 at *
  refine lpx (α := Nat) (fun i => [nV .i64 i]) (fun i W' => i ≤ oa.length ∧ ∃ zs d, d.Q ∧ d.calls ≤ i ∧ d.room = room ∧ (tot d.now : Int) ≤ room ∧ St Wz G0 (Ky (.pointer (some ⟨bd, 0, none⟩) : Value) (Dk zs d) :: Ky PoolK.a (Pl zs) :: []) W') (fun i => oa.length - i) 0 (fun _ => rfl) rfl ⟨Nat.zero_le _, [], d0, q0, by omega, r0, t0, h⟩ ?_
  clear h q0 c0 r0 t0
  rintro next i W2 hnext ⟨hi, zs, d, q, hcl, hrm, htt, h⟩
  refine app1 ?_
  refine x_lenS ha ?_
  refine a_lss (ifd (fun hlt => ?_) fun hlt => ?_)
  · have hil : i < oa.length := by omega
    obtain ⟨o, ho⟩ : ∃ o, oa[i]? = some o := ⟨_, List.getElem?_eq_getElem hil⟩
    have hom := List.mem_of_getElem? ho
    have hF := hfa o hom
    have hS := hsa o hom
    have n1 := hS.name
    have n3 := hS.bytes
    have hnt := q.v.now.tot
    have hgl := gt_le (k := o.name) q.v.now.srt
    refine x_idx (ha.below h.low) hil fun g of hcell => ?_
    refine x_lds (cs := opC o) rfl (fun j u hu => hcell j u (List.getElem?_eq_some_iff.1 hu).1 (by rw [opC_get ho (List.getElem?_eq_some_iff.1 hu).1, hu])) ?_
    refine h.allocS fun bx W h => ?_
    refine h.storeS (cs' := opC o) fun W h => ?_
    refine copy_spec (v := (.pointer (some ⟨bd, 0, none⟩) : Value)) h (by omega) fun bc W h => ?_
    refine used_spec (freezeD (v := (.pointer (some ⟨bd, 0, none⟩) : Value)) h) fun W hb4 => ?_
    replace h := h.ext hb4
    (repeat (first | (with_reducible refine ift ?_) | (with_reducible refine iff' ?_) | (with_reducible refine a_lss ?_) | (with_reducible refine a_leq ?_) | (with_reducible refine a_gtr ?_) | (with_reducible refine a_geq ?_) | (with_reducible refine w_eql ?_) | (with_reducible refine w_neq ?_) | (with_reducible refine s_eql ?_) | (with_reducible refine s_neq ?_) | ((with_reducible refine a_add64 ?h0 ?h1 ?_); (case h0 => omega); (case h1 => omega);  skip) | ((with_reducible refine a_sub64 ?h0 ?h1 ?_); (case h0 => omega); (case h1 => omega);  skip) | ((with_reducible refine a_mul64 ?h0 ?h1 ?_); (case h0 => omega); (case h1 => omega);  skip) | (with_reducible refine a_notd ?_) | (with_reducible refine a_not ?_) | (with_reducible refine a_ext0 ?_) | (with_reducible refine a_ext1 ?_) | (with_reducible refine a_ext2 ?_) | (with_reducible refine x_len ?_) | (with_reducible refine x_lens ?_) | (with_reducible refine x_eqb ?_) | (with_reducible refine x_neb ?_) | (with_reducible refine x_nilP ?_) | (with_reducible refine x_nilPn ?_) | (with_reducible refine x_nilF ?_) | (with_reducible refine x_nilFF ?_) | (with_reducible refine w_eqlL ?_) | (with_reducible refine w_neqL ?_) | (with_reducible refine s_eqlL ?_) | (with_reducible refine ifnt ?_) | (with_reducible refine ifnf ?_) | (with_reducible refine x_eqB ?_) | (with_reducible refine x_neB ?_) | (with_reducible refine x_lssL ?_) | (with_reducible refine x_gtrL ?_) | (with_reducible refine x_geqL ?_) | (with_reducible refine s_neqL ?_) | (with_reducible refine St.load h ?_) | (with_reducible refine St.loadS h ?_) | (with_reducible refine a_fld0 ?_) | (with_reducible refine St.store h fun W h => ?_) | (with_reducible refine St.storeS h fun W h => ?_) | (with_reducible refine St.alloc h fun b W h => ?_) | (with_reducible refine St.allocS h fun b W h => ?_) | (with_reducible refine a_nil ?_) | (with_reducible refine ss_load ?_) | (with_reducible refine ss_loadS ?_) | (with_reducible refine ss_eqb ?_)))
    refine iff' ?_
    unfold opC at h
    (repeat (first | (with_reducible refine ift ?_) | (with_reducible refine iff' ?_) | (with_reducible refine a_lss ?_) | (with_reducible refine a_leq ?_) | (with_reducible refine a_gtr ?_) | (with_reducible refine a_geq ?_) | (with_reducible refine w_eql ?_) | (with_reducible refine w_neq ?_) | (with_reducible refine s_eql ?_) | (with_reducible refine s_neq ?_) | ((with_reducible refine a_add64 ?h0 ?h1 ?_); (case h0 => omega); (case h1 => omega);  skip) | ((with_reducible refine a_sub64 ?h0 ?h1 ?_); (case h0 => omega); (case h1 => omega);  skip) | ((with_reducible refine a_mul64 ?h0 ?h1 ?_); (case h0 => omega); (case h1 => omega);  skip) | (with_reducible refine a_notd ?_) | (with_reducible refine a_not ?_) | (with_reducible refine a_ext0 ?_) | (with_reducible refine a_ext1 ?_) | (with_reducible refine a_ext2 ?_) | (with_reducible refine x_len ?_) | (with_reducible refine x_lens ?_) | (with_reducible refine x_eqb ?_) | (with_reducible refine x_neb ?_) | (with_reducible refine x_nilP ?_) | (with_reducible refine x_nilPn ?_) | (with_reducible refine x_nilF ?_) | (with_reducible refine x_nilFF ?_) | (with_reducible refine w_eqlL ?_) | (with_reducible refine w_neqL ?_) | (with_reducible refine s_eqlL ?_) | (with_reducible refine ifnt ?_) | (with_reducible refine ifnf ?_) | (with_reducible refine x_eqB ?_) | (with_reducible refine x_neB ?_) | (with_reducible refine x_lssL ?_) | (with_reducible refine x_gtrL ?_) | (with_reducible refine x_geqL ?_) | (with_reducible refine s_neqL ?_) | (with_reducible refine St.load h ?_) | (with_reducible refine St.loadS h ?_) | (with_reducible refine a_fld0 ?_) | (with_reducible refine St.store h fun W h => ?_) | (with_reducible refine St.storeS h fun W h => ?_) | (with_reducible refine St.alloc h fun b W h => ?_) | (with_reducible refine St.allocS h fun b W h => ?_) | (with_reducible refine a_nil ?_) | (with_reducible refine ss_load ?_) | (with_reducible refine ss_loadS ?_) | (with_reducible refine ss_eqb ?_)))
    refine peek_spec (s := o.name) (freezeD (v := (.pointer (some ⟨bd, 0, none⟩) : Value)) h) fun x W ox h2 => ?_
    replace h := h.frame1 h2
    clear h2
    (repeat (first | (with_reducible refine ift ?_) | (with_reducible refine iff' ?_) | (with_reducible refine a_lss ?_) | (with_reducible refine a_leq ?_) | (with_reducible refine a_gtr ?_) | (with_reducible refine a_geq ?_) | (with_reducible refine w_eql ?_) | (with_reducible refine w_neq ?_) | (with_reducible refine s_eql ?_) | (with_reducible refine s_neq ?_) | ((with_reducible refine a_add64 ?h0 ?h1 ?_); (case h0 => omega); (case h1 => omega);  skip) | ((with_reducible refine a_sub64 ?h0 ?h1 ?_); (case h0 => omega); (case h1 => omega);  skip) | ((with_reducible refine a_mul64 ?h0 ?h1 ?_); (case h0 => omega); (case h1 => omega);  skip) | (with_reducible refine a_notd ?_) | (with_reducible refine a_not ?_) | (with_reducible refine a_ext0 ?_) | (with_reducible refine a_ext1 ?_) | (with_reducible refine a_ext2 ?_) | (with_reducible refine x_len ?_) | (with_reducible refine x_lens ?_) | (with_reducible refine x_eqb ?_) | (with_reducible refine x_neb ?_) | (with_reducible refine x_nilP ?_) | (with_reducible refine x_nilPn ?_) | (with_reducible refine x_nilF ?_) | (with_reducible refine x_nilFF ?_) | (with_reducible refine w_eqlL ?_) | (with_reducible refine w_neqL ?_) | (with_reducible refine s_eqlL ?_) | (with_reducible refine ifnt ?_) | (with_reducible refine ifnf ?_) | (with_reducible refine x_eqB ?_) | (with_reducible refine x_neB ?_) | (with_reducible refine x_lssL ?_) | (with_reducible refine x_gtrL ?_) | (with_reducible refine x_geqL ?_) | (with_reducible refine s_neqL ?_) | (with_reducible refine St.load h ?_) | (with_reducible refine St.loadS h ?_) | (with_reducible refine a_fld0 ?_) | (with_reducible refine St.store h fun W h => ?_) | (with_reducible refine St.storeS h fun W h => ?_) | (with_reducible refine St.alloc h fun b W h => ?_) | (with_reducible refine St.allocS h fun b W h => ?_) | (with_reducible refine a_nil ?_) | (with_reducible refine ss_load ?_) | (with_reducible refine ss_loadS ?_) | (with_reducible refine ss_eqb ?_)))
    refine jni (fun vs W' => vs = [.int .i64 room, va, .pointer (some ⟨bd, 0, none⟩), nV .i64 i] ∧ ∃ zs d, d.Q ∧ d.calls ≤ i + 1 ∧ d.room = room ∧ (tot d.now : Int) ≤ room ∧ St Wz G0 (Ky (.pointer (some ⟨bd, 0, none⟩) : Value) (Dk zs d) :: Ky PoolK.a (Pl zs) :: []) W') ?_ ?_
    · clear h
      rintro vs W3 _ ⟨rfl, zs1, d1, q1, hc1, hr1, ht1, h⟩
      refine app4 ?_
      have hn1 := q1.v.lenN
      have ht2 := q1.v.now.tot
      refine dnames_spec (freezeD (v := (.pointer (some ⟨bd, 0, none⟩) : Value)) h) (by omega) fun sv W4 osv h2 => ?_
      replace h := h.frame1 h2
      clear h2
      have hz := freezeD (v := (.pointer (some ⟨bd, 0, none⟩) : Value)) h
      have hsl : Sl W4 1 sv (d1.now.map Prod.fst).length ((d1.now.map Prod.fst).map strV) := h.osl (v := sv)
      rw [List.length_map] at hsl
      refine lpx (α := Nat) (fun j => [nV .i64 (tot (d1.now.take j)), nV .i64 j]) (fun j W' => Below W4.heap.size W4 W' ∧ j ≤ d1.now.length) (fun j => d1.now.length - j) 0 (fun _ => rfl) rfl ⟨Below.refl _ _, Nat.zero_le _⟩ ?_
      rintro next2 j W5 hnext2 ⟨hb5, hj⟩
      refine app2 ?_
      refine x_lenS hsl ?_
      refine a_lss (ifd (fun hlt2 => ?_) fun hlt2 => ?_)
      · have hjl : j < d1.now.length := by omega
        obtain ⟨p, hp⟩ : ∃ p, d1.now[j]? = some p := ⟨_, List.getElem?_eq_getElem hjl⟩
        refine x_at (hsl.below hb5) (u := strV p.1) (by rw [List.getElem?_map, List.getElem?_map, hp]; rfl) ?_
        refine peek_spec (s := p.1) (hz.below hb5) fun y W6 oy h6 => ?_
        rw [gt_mem q1.v.now.srt hp] at h6
        refine a_ext0 (a_ext1 ?_)
        refine x_lenS (h6.osl (v := y)) ?_
        have e1 := tot_take_succ hp
        have e2 := tot_take_le d1.now (j + 1)
        refine a_add64 (by omega) (by omega) ?_
        refine a_add64 (by omega) (by omega) ?_
        rw [show ((j : Int) + 1) = ((j + 1 : Nat) : Int) by push_cast; rfl, show ((tot (d1.now.take j) : Nat) : Int) + ((p.2.length : Nat) : Int) = ((tot (d1.now.take (j + 1)) : Nat) : Int) by rw [e1]; push_cast; rfl]
        exact ⟨rfl, rfl, rfl, rfl, rfl, hnext2 (j + 1) W6 (by omega) ⟨Below.next hb5 h6.low, by omega⟩⟩
      · obtain rfl : j = d1.now.length := by omega
        rw [List.take_length]
        replace h := h.ext hb5
        refine used_spec (freezeD (v := (.pointer (some ⟨bd, 0, none⟩) : Value)) h) fun W6 hb6 => ?_
        replace h := h.ext hb6
        refine w_neq (ifd_neg (by simp) ?_)
        refine a_gtr (ifd_neg (by omega) ?_)
        refine a_add64 (by omega) (by omega) ?_
        rw [show ((i : Int) + 1) = ((i + 1 : Nat) : Int) by push_cast; rfl]
        exact ⟨rfl, rfl, rfl, hnext (i + 1) W6 (by omega) ⟨by omega, zs1, d1, q1, hc1, hr1, ht1, h.to⟩⟩
    refine w_eql (ifd (fun hk => ?_) fun hk => ?_)
    · (repeat (first | (with_reducible refine ift ?_) | (with_reducible refine iff' ?_) | (with_reducible refine a_lss ?_) | (with_reducible refine a_leq ?_) | (with_reducible refine a_gtr ?_) | (with_reducible refine a_geq ?_) | (with_reducible refine w_eql ?_) | (with_reducible refine w_neq ?_) | (with_reducible refine s_eql ?_) | (with_reducible refine s_neq ?_) | ((with_reducible refine a_add64 ?h0 ?h1 ?_); (case h0 => omega); (case h1 => omega);  skip) | ((with_reducible refine a_sub64 ?h0 ?h1 ?_); (case h0 => omega); (case h1 => omega);  skip) | ((with_reducible refine a_mul64 ?h0 ?h1 ?_); (case h0 => omega); (case h1 => omega);  skip) | (with_reducible refine a_notd ?_) | (with_reducible refine a_not ?_) | (with_reducible refine a_ext0 ?_) | (with_reducible refine a_ext1 ?_) | (with_reducible refine a_ext2 ?_) | (with_reducible refine x_len ?_) | (with_reducible refine x_lens ?_) | (with_reducible refine x_eqb ?_) | (with_reducible refine x_neb ?_) | (with_reducible refine x_nilP ?_) | (with_reducible refine x_nilPn ?_) | (with_reducible refine x_nilF ?_) | (with_reducible refine x_nilFF ?_) | (with_reducible refine w_eqlL ?_) | (with_reducible refine w_neqL ?_) | (with_reducible refine s_eqlL ?_) | (with_reducible refine ifnt ?_) | (with_reducible refine ifnf ?_) | (with_reducible refine x_eqB ?_) | (with_reducible refine x_neB ?_) | (with_reducible refine x_lssL ?_) | (with_reducible refine x_gtrL ?_) | (with_reducible refine x_geqL ?_) | (with_reducible refine s_neqL ?_) | (with_reducible refine St.load h ?_) | (with_reducible refine St.loadS h ?_) | (with_reducible refine a_fld0 ?_) | (with_reducible refine St.store h fun W h => ?_) | (with_reducible refine St.storeS h fun W h => ?_) | (with_reducible refine St.alloc h fun b W h => ?_) | (with_reducible refine St.allocS h fun b W h => ?_) | (with_reducible refine a_nil ?_) | (with_reducible refine ss_load ?_) | (with_reducible refine ss_loadS ?_) | (with_reducible refine ss_eqb ?_)))
      refine append_spec (v := (.pointer (some ⟨bd, 0, none⟩) : Value)) h (by omega) (by omega) (Arg.old hF.bytes) (by omega) fun zs2 W hz2 h => ?_
      replace h := upD (v := (.pointer (some ⟨bc, 0, none⟩) : Value)) h hz2
      have q2 := appendP_q q o.name o.bytes
      have c2 := appendP_calls d o.name o.bytes
      obtain ⟨f1, f2, f3, f4, f5⟩ := append_facts q o.name o.bytes
      generalize d.appendP o.name o.bytes = r at *
      (repeat (first | (with_reducible refine ift ?_) | (with_reducible refine iff' ?_) | (with_reducible refine a_lss ?_) | (with_reducible refine a_leq ?_) | (with_reducible refine a_gtr ?_) | (with_reducible refine a_geq ?_) | (with_reducible refine w_eql ?_) | (with_reducible refine w_neq ?_) | (with_reducible refine s_eql ?_) | (with_reducible refine s_neq ?_) | ((with_reducible refine a_add64 ?h0 ?h1 ?_); (case h0 => omega); (case h1 => omega);  skip) | ((with_reducible refine a_sub64 ?h0 ?h1 ?_); (case h0 => omega); (case h1 => omega);  skip) | ((with_reducible refine a_mul64 ?h0 ?h1 ?_); (case h0 => omega); (case h1 => omega);  skip) | (with_reducible refine a_notd ?_) | (with_reducible refine a_not ?_) | (with_reducible refine a_ext0 ?_) | (with_reducible refine a_ext1 ?_) | (with_reducible refine a_ext2 ?_) | (with_reducible refine x_len ?_) | (with_reducible refine x_lens ?_) | (with_reducible refine x_eqb ?_) | (with_reducible refine x_neb ?_) | (with_reducible refine x_nilP ?_) | (with_reducible refine x_nilPn ?_) | (with_reducible refine x_nilF ?_) | (with_reducible refine x_nilFF ?_) | (with_reducible refine w_eqlL ?_) | (with_reducible refine w_neqL ?_) | (with_reducible refine s_eqlL ?_) | (with_reducible refine ifnt ?_) | (with_reducible refine ifnf ?_) | (with_reducible refine x_eqB ?_) | (with_reducible refine x_neB ?_) | (with_reducible refine x_lssL ?_) | (with_reducible refine x_gtrL ?_) | (with_reducible refine x_geqL ?_) | (with_reducible refine s_neqL ?_) | (with_reducible refine St.load h ?_) | (with_reducible refine St.loadS h ?_) | (with_reducible refine a_fld0 ?_) | (with_reducible refine St.store h fun W h => ?_) | (with_reducible refine St.storeS h fun W h => ?_) | (with_reducible refine St.alloc h fun b W h => ?_) | (with_reducible refine St.allocS h fun b W h => ?_) | (with_reducible refine a_nil ?_) | (with_reducible refine ss_load ?_) | (with_reducible refine ss_loadS ?_) | (with_reducible refine ss_eqb ?_)))
      refine peek_spec (s := o.name) (freezeD (v := (.pointer (some ⟨bd, 0, none⟩) : Value)) h) fun y W oy h2 => ?_
      replace h := h.frame1 h2
      clear h2
      refine a_ext0 (a_ext1 ?_)
      refine jni (fun vs W' => vs = [.int .i64 room, va, .pointer (some ⟨bd, 0, none⟩), nV .i64 i] ∧ ∃ zs d, d.Q ∧ d.calls ≤ i + 1 ∧ d.room = room ∧ (tot d.now : Int) ≤ room ∧ St Wz G0 (Ky (.pointer (some ⟨bd, 0, none⟩) : Value) (Dk zs d) :: Ky PoolK.a (Pl zs) :: []) W') ?_ ?_
      · rintro vs W _ ⟨rfl, h⟩
        exact app4 ⟨rfl, h⟩
      replace h := h.drew
      refine ⟨fun w => Rec w bx 32 [.int .i64 o.kind, .int .i64 o.a, .int .i64 o.b, strV o.name, strV o.to, svV o.bv, svV o.ev] ∧ Below Wz.heap.size Wz w, ⟨h.rc, h.low⟩, ?_⟩
      refine s_eql ?_
      refine a_fld0 (s_ld (fun w hw => hw.1) rfl (x_lenSs hF.bytes ?_))
      refine a_add64 (by omega) (by omega) (a_gtr (ifd (fun hfull => ?_) fun hfull => ?_))
      · refine s_neq (s_neb ?_)
        have hr0 : r.2 ≠ 0 := fun hx => by have := (f5 hx).2.2.2; omega
        have e1 : decide (r.2 = 8) = decide (r.2 ≠ 11) := by
          rw [decide_eq_decide, f1]
          constructor
          · rintro ⟨h1, _⟩ h2
            rw [f2.1 h2] at h1; cases h1
          · intro h2
            refine ⟨?_, by omega⟩
            cases hk2 : okN o.name
            · exact absurd (f2.2 hk2) h2
            · rfl
        rw [e1, beq_self_eq_true]
        refine iff' ?_
        refine s_eql (ifd_neg hr0 ?_)
        refine s_neq (ifd_pos hr0 ?_)
        refine alike_spec (freezeD (v := (.pointer (some ⟨bd, 0, none⟩) : Value)) h) (freezeD (v := (.pointer (some ⟨bc, 0, none⟩) : Value)) h) (by omega) (by omega) fun W hb5 => ?_
        replace h := h.ext hb5
        refine ⟨⟨h.rc, h.low⟩, ?_⟩
        rw [decide_eq_true (f4 hr0)]
        (repeat (first | (with_reducible refine ift ?_) | (with_reducible refine iff' ?_) | (with_reducible refine a_lss ?_) | (with_reducible refine a_leq ?_) | (with_reducible refine a_gtr ?_) | (with_reducible refine a_geq ?_) | (with_reducible refine w_eql ?_) | (with_reducible refine w_neq ?_) | (with_reducible refine s_eql ?_) | (with_reducible refine s_neq ?_) | ((with_reducible refine a_add64 ?h0 ?h1 ?_); (case h0 => omega); (case h1 => omega);  skip) | ((with_reducible refine a_sub64 ?h0 ?h1 ?_); (case h0 => omega); (case h1 => omega);  skip) | ((with_reducible refine a_mul64 ?h0 ?h1 ?_); (case h0 => omega); (case h1 => omega);  skip) | (with_reducible refine a_notd ?_) | (with_reducible refine a_not ?_) | (with_reducible refine a_ext0 ?_) | (with_reducible refine a_ext1 ?_) | (with_reducible refine a_ext2 ?_) | (with_reducible refine x_len ?_) | (with_reducible refine x_lens ?_) | (with_reducible refine x_eqb ?_) | (with_reducible refine x_neb ?_) | (with_reducible refine x_nilP ?_) | (with_reducible refine x_nilPn ?_) | (with_reducible refine x_nilF ?_) | (with_reducible refine x_nilFF ?_) | (with_reducible refine w_eqlL ?_) | (with_reducible refine w_neqL ?_) | (with_reducible refine s_eqlL ?_) | (with_reducible refine ifnt ?_) | (with_reducible refine ifnf ?_) | (with_reducible refine x_eqB ?_) | (with_reducible refine x_neB ?_) | (with_reducible refine x_lssL ?_) | (with_reducible refine x_gtrL ?_) | (with_reducible refine x_geqL ?_) | (with_reducible refine s_neqL ?_) | (with_reducible refine St.load h ?_) | (with_reducible refine St.loadS h ?_) | (with_reducible refine a_fld0 ?_) | (with_reducible refine St.store h fun W h => ?_) | (with_reducible refine St.storeS h fun W h => ?_) | (with_reducible refine St.alloc h fun b W h => ?_) | (with_reducible refine St.allocS h fun b W h => ?_) | (with_reducible refine a_nil ?_) | (with_reducible refine ss_load ?_) | (with_reducible refine ss_loadS ?_) | (with_reducible refine ss_eqb ?_)))
        exact ⟨rfl, zs2, r.1, q2, by omega, f3.trans hrm, by rw [f4 hr0]; exact htt, h.to⟩
      · have e1 : decide (r.2 = 8) = false := decide_eq_false fun hx => by have := (f1.1 hx).2; omega
        rw [e1]
        refine s_neb (iff' ?_)
        refine s_eql (ifd (fun hr0 => ?_) fun hr0 => ?_)
        · obtain ⟨g1, g2, g3, g4⟩ := f5 hr0
          rw [g1]
          (repeat (first | (with_reducible refine ift ?_) | (with_reducible refine iff' ?_) | (with_reducible refine a_lss ?_) | (with_reducible refine a_leq ?_) | (with_reducible refine a_gtr ?_) | (with_reducible refine a_geq ?_) | (with_reducible refine w_eql ?_) | (with_reducible refine w_neq ?_) | (with_reducible refine s_eql ?_) | (with_reducible refine s_neq ?_) | ((with_reducible refine a_add64 ?h0 ?h1 ?_); (case h0 => omega); (case h1 => omega);  skip) | ((with_reducible refine a_sub64 ?h0 ?h1 ?_); (case h0 => omega); (case h1 => omega);  skip) | ((with_reducible refine a_mul64 ?h0 ?h1 ?_); (case h0 => omega); (case h1 => omega);  skip) | (with_reducible refine a_notd ?_) | (with_reducible refine a_not ?_) | (with_reducible refine a_ext0 ?_) | (with_reducible refine a_ext1 ?_) | (with_reducible refine a_ext2 ?_) | (with_reducible refine x_len ?_) | (with_reducible refine x_lens ?_) | (with_reducible refine x_eqb ?_) | (with_reducible refine x_neb ?_) | (with_reducible refine x_nilP ?_) | (with_reducible refine x_nilPn ?_) | (with_reducible refine x_nilF ?_) | (with_reducible refine x_nilFF ?_) | (with_reducible refine w_eqlL ?_) | (with_reducible refine w_neqL ?_) | (with_reducible refine s_eqlL ?_) | (with_reducible refine ifnt ?_) | (with_reducible refine ifnf ?_) | (with_reducible refine x_eqB ?_) | (with_reducible refine x_neB ?_) | (with_reducible refine x_lssL ?_) | (with_reducible refine x_gtrL ?_) | (with_reducible refine x_geqL ?_) | (with_reducible refine s_neqL ?_) | (with_reducible refine St.load h ?_) | (with_reducible refine St.loadS h ?_) | (with_reducible refine a_fld0 ?_) | (with_reducible refine St.store h fun W h => ?_) | (with_reducible refine St.storeS h fun W h => ?_) | (with_reducible refine St.alloc h fun b W h => ?_) | (with_reducible refine St.allocS h fun b W h => ?_) | (with_reducible refine a_nil ?_) | (with_reducible refine ss_load ?_) | (with_reducible refine ss_loadS ?_) | (with_reducible refine ss_eqb ?_)))
          refine s_ld (fun w hw => hw.1) rfl ?_
          refine copyBytes_spec (h.osl (v := x)) (by omega) fun v1 W g5 g6 => ?_
          replace h := h.take g6 g5
          have ov1 : Cel1 v1 := .of_own g5
          refine ⟨⟨h.rc, h.low⟩, ?_⟩
          refine h.app (v := v1) (Sl.below hF.bytes h.low) (bytesV_one o.bytes) (by unfold maxLen; omega) (by omega) fun v2 W ov2 h _ => ?_
          refine ⟨⟨h.rc, h.low⟩, ?_⟩
          rw [← bytesV_append, ← List.length_append] at h
          refine bytes_spec (l := gt o.name r.1.now) (m := gt o.name d.now ++ o.bytes) (h.osl (v := y)) (h.osl (v := v2)) ?_
          refine ⟨⟨h.rc, h.low⟩, ?_⟩
          rw [decide_eq_true g2]
          (repeat (first | (with_reducible refine ift ?_) | (with_reducible refine iff' ?_) | (with_reducible refine a_lss ?_) | (with_reducible refine a_leq ?_) | (with_reducible refine a_gtr ?_) | (with_reducible refine a_geq ?_) | (with_reducible refine w_eql ?_) | (with_reducible refine w_neq ?_) | (with_reducible refine s_eql ?_) | (with_reducible refine s_neq ?_) | ((with_reducible refine a_add64 ?h0 ?h1 ?_); (case h0 => omega); (case h1 => omega);  skip) | ((with_reducible refine a_sub64 ?h0 ?h1 ?_); (case h0 => omega); (case h1 => omega);  skip) | ((with_reducible refine a_mul64 ?h0 ?h1 ?_); (case h0 => omega); (case h1 => omega);  skip) | (with_reducible refine a_notd ?_) | (with_reducible refine a_not ?_) | (with_reducible refine a_ext0 ?_) | (with_reducible refine a_ext1 ?_) | (with_reducible refine a_ext2 ?_) | (with_reducible refine x_len ?_) | (with_reducible refine x_lens ?_) | (with_reducible refine x_eqb ?_) | (with_reducible refine x_neb ?_) | (with_reducible refine x_nilP ?_) | (with_reducible refine x_nilPn ?_) | (with_reducible refine x_nilF ?_) | (with_reducible refine x_nilFF ?_) | (with_reducible refine w_eqlL ?_) | (with_reducible refine w_neqL ?_) | (with_reducible refine s_eqlL ?_) | (with_reducible refine ifnt ?_) | (with_reducible refine ifnf ?_) | (with_reducible refine x_eqB ?_) | (with_reducible refine x_neB ?_) | (with_reducible refine x_lssL ?_) | (with_reducible refine x_gtrL ?_) | (with_reducible refine x_geqL ?_) | (with_reducible refine s_neqL ?_) | (with_reducible refine St.load h ?_) | (with_reducible refine St.loadS h ?_) | (with_reducible refine a_fld0 ?_) | (with_reducible refine St.store h fun W h => ?_) | (with_reducible refine St.storeS h fun W h => ?_) | (with_reducible refine St.alloc h fun b W h => ?_) | (with_reducible refine St.allocS h fun b W h => ?_) | (with_reducible refine a_nil ?_) | (with_reducible refine ss_load ?_) | (with_reducible refine ss_loadS ?_) | (with_reducible refine ss_eqb ?_)))
          refine s_ld (fun w hw => hw.1) rfl (x_lenSs hF.bytes ?_)
          refine a_add64 (by omega) (by omega) ?_
          refine used_spec (freezeD (v := (.pointer (some ⟨bd, 0, none⟩) : Value)) h) fun W hb5 => ?_
          replace h := h.ext hb5
          refine ⟨⟨h.rc, h.low⟩, ?_⟩
          refine s_neq (ifd_neg (by rw [g3]; push_cast; simp) ?_)
          refine s_neq (ifd_neg (by simpa using hr0) ?_)
          exact ⟨rfl, zs2, r.1, q2, by omega, f3.trans hrm, by rw [g3]; push_cast; omega, h.to⟩
        · refine s_neq (ifd_pos hr0 ?_)
          refine alike_spec (freezeD (v := (.pointer (some ⟨bd, 0, none⟩) : Value)) h) (freezeD (v := (.pointer (some ⟨bc, 0, none⟩) : Value)) h) (by omega) (by omega) fun W hb5 => ?_
          replace h := h.ext hb5
          refine ⟨⟨h.rc, h.low⟩, ?_⟩
          rw [decide_eq_true (f4 hr0)]
          (repeat (first | (with_reducible refine ift ?_) | (with_reducible refine iff' ?_) | (with_reducible refine a_lss ?_) | (with_reducible refine a_leq ?_) | (with_reducible refine a_gtr ?_) | (with_reducible refine a_geq ?_) | (with_reducible refine w_eql ?_) | (with_reducible refine w_neq ?_) | (with_reducible refine s_eql ?_) | (with_reducible refine s_neq ?_) | ((with_reducible refine a_add64 ?h0 ?h1 ?_); (case h0 => omega); (case h1 => omega);  skip) | ((with_reducible refine a_sub64 ?h0 ?h1 ?_); (case h0 => omega); (case h1 => omega);  skip) | ((with_reducible refine a_mul64 ?h0 ?h1 ?_); (case h0 => omega); (case h1 => omega);  skip) | (with_reducible refine a_notd ?_) | (with_reducible refine a_not ?_) | (with_reducible refine a_ext0 ?_) | (with_reducible refine a_ext1 ?_) | (with_reducible refine a_ext2 ?_) | (with_reducible refine x_len ?_) | (with_reducible refine x_lens ?_) | (with_reducible refine x_eqb ?_) | (with_reducible refine x_neb ?_) | (with_reducible refine x_nilP ?_) | (with_reducible refine x_nilPn ?_) | (with_reducible refine x_nilF ?_) | (with_reducible refine x_nilFF ?_) | (with_reducible refine w_eqlL ?_) | (with_reducible refine w_neqL ?_) | (with_reducible refine s_eqlL ?_) | (with_reducible refine ifnt ?_) | (with_reducible refine ifnf ?_) | (with_reducible refine x_eqB ?_) | (with_reducible refine x_neB ?_) | (with_reducible refine x_lssL ?_) | (with_reducible refine x_gtrL ?_) | (with_reducible refine x_geqL ?_) | (with_reducible refine s_neqL ?_) | (with_reducible refine St.load h ?_) | (with_reducible refine St.loadS h ?_) | (with_reducible refine a_fld0 ?_) | (with_reducible refine St.store h fun W h => ?_) | (with_reducible refine St.storeS h fun W h => ?_) | (with_reducible refine St.alloc h fun b W h => ?_) | (with_reducible refine St.allocS h fun b W h => ?_) | (with_reducible refine a_nil ?_) | (with_reducible refine ss_load ?_) | (with_reducible refine ss_loadS ?_) | (with_reducible refine ss_eqb ?_)))
          exact ⟨rfl, zs2, r.1, q2, by omega, f3.trans hrm, by rw [f4 hr0]; exact htt, h.to⟩
    refine jni (fun vs W' => vs = [.int .i64 room, va, .pointer (some ⟨bd, 0, none⟩), nV .i64 i] ∧ ∃ zs d, d.Q ∧ d.calls ≤ i + 1 ∧ d.room = room ∧ (tot d.now : Int) ≤ room ∧ St Wz G0 (Ky (.pointer (some ⟨bd, 0, none⟩) : Value) (Dk zs d) :: Ky PoolK.a (Pl zs) :: []) W') ?_ ?_
    · rintro vs W _ ⟨rfl, h⟩
      exact app4 ⟨rfl, h⟩
    refine w_eql (ifd (fun hk => ?_) fun hk => ?_)
    · (repeat (first | (with_reducible refine ift ?_) | (with_reducible refine iff' ?_) | (with_reducible refine a_lss ?_) | (with_reducible refine a_leq ?_) | (with_reducible refine a_gtr ?_) | (with_reducible refine a_geq ?_) | (with_reducible refine w_eql ?_) | (with_reducible refine w_neq ?_) | (with_reducible refine s_eql ?_) | (with_reducible refine s_neq ?_) | ((with_reducible refine a_add64 ?h0 ?h1 ?_); (case h0 => omega); (case h1 => omega);  skip) | ((with_reducible refine a_sub64 ?h0 ?h1 ?_); (case h0 => omega); (case h1 => omega);  skip) | ((with_reducible refine a_mul64 ?h0 ?h1 ?_); (case h0 => omega); (case h1 => omega);  skip) | (with_reducible refine a_notd ?_) | (with_reducible refine a_not ?_) | (with_reducible refine a_ext0 ?_) | (with_reducible refine a_ext1 ?_) | (with_reducible refine a_ext2 ?_) | (with_reducible refine x_len ?_) | (with_reducible refine x_lens ?_) | (with_reducible refine x_eqb ?_) | (with_reducible refine x_neb ?_) | (with_reducible refine x_nilP ?_) | (with_reducible refine x_nilPn ?_) | (with_reducible refine x_nilF ?_) | (with_reducible refine x_nilFF ?_) | (with_reducible refine w_eqlL ?_) | (with_reducible refine w_neqL ?_) | (with_reducible refine s_eqlL ?_) | (with_reducible refine ifnt ?_) | (with_reducible refine ifnf ?_) | (with_reducible refine x_eqB ?_) | (with_reducible refine x_neB ?_) | (with_reducible refine x_lssL ?_) | (with_reducible refine x_gtrL ?_) | (with_reducible refine x_geqL ?_) | (with_reducible refine s_neqL ?_) | (with_reducible refine St.load h ?_) | (with_reducible refine St.loadS h ?_) | (with_reducible refine a_fld0 ?_) | (with_reducible refine St.store h fun W h => ?_) | (with_reducible refine St.storeS h fun W h => ?_) | (with_reducible refine St.alloc h fun b W h => ?_) | (with_reducible refine St.allocS h fun b W h => ?_) | (with_reducible refine a_nil ?_) | (with_reducible refine ss_load ?_) | (with_reducible refine ss_loadS ?_) | (with_reducible refine ss_eqb ?_)))
      refine cut_spec (v := (.pointer (some ⟨bd, 0, none⟩) : Value)) h (by omega) (by omega) fun zs2 W hz2 h => ?_
      replace h := upD (v := (.pointer (some ⟨bc, 0, none⟩) : Value)) h hz2
      have q2 := cutP_q q o.name o.a
      have c2 := cutP_calls d o.name o.a
      obtain ⟨f3, f4, f5⟩ := cut_facts q o.name o.a
      generalize d.cutP o.name o.a = r at *
      (repeat (first | (with_reducible refine ift ?_) | (with_reducible refine iff' ?_) | (with_reducible refine a_lss ?_) | (with_reducible refine a_leq ?_) | (with_reducible refine a_gtr ?_) | (with_reducible refine a_geq ?_) | (with_reducible refine w_eql ?_) | (with_reducible refine w_neq ?_) | (with_reducible refine s_eql ?_) | (with_reducible refine s_neq ?_) | ((with_reducible refine a_add64 ?h0 ?h1 ?_); (case h0 => omega); (case h1 => omega);  skip) | ((with_reducible refine a_sub64 ?h0 ?h1 ?_); (case h0 => omega); (case h1 => omega);  skip) | ((with_reducible refine a_mul64 ?h0 ?h1 ?_); (case h0 => omega); (case h1 => omega);  skip) | (with_reducible refine a_notd ?_) | (with_reducible refine a_not ?_) | (with_reducible refine a_ext0 ?_) | (with_reducible refine a_ext1 ?_) | (with_reducible refine a_ext2 ?_) | (with_reducible refine x_len ?_) | (with_reducible refine x_lens ?_) | (with_reducible refine x_eqb ?_) | (with_reducible refine x_neb ?_) | (with_reducible refine x_nilP ?_) | (with_reducible refine x_nilPn ?_) | (with_reducible refine x_nilF ?_) | (with_reducible refine x_nilFF ?_) | (with_reducible refine w_eqlL ?_) | (with_reducible refine w_neqL ?_) | (with_reducible refine s_eqlL ?_) | (with_reducible refine ifnt ?_) | (with_reducible refine ifnf ?_) | (with_reducible refine x_eqB ?_) | (with_reducible refine x_neB ?_) | (with_reducible refine x_lssL ?_) | (with_reducible refine x_gtrL ?_) | (with_reducible refine x_geqL ?_) | (with_reducible refine s_neqL ?_) | (with_reducible refine St.load h ?_) | (with_reducible refine St.loadS h ?_) | (with_reducible refine a_fld0 ?_) | (with_reducible refine St.store h fun W h => ?_) | (with_reducible refine St.storeS h fun W h => ?_) | (with_reducible refine St.alloc h fun b W h => ?_) | (with_reducible refine St.allocS h fun b W h => ?_) | (with_reducible refine a_nil ?_) | (with_reducible refine ss_load ?_) | (with_reducible refine ss_loadS ?_) | (with_reducible refine ss_eqb ?_)))
      refine peek_spec (s := o.name) (freezeD (v := (.pointer (some ⟨bd, 0, none⟩) : Value)) h) fun y W oy h2 => ?_
      replace h := h.frame1 h2
      clear h2
      refine a_ext0 (a_ext1 ?_)
      refine jni (fun vs W' => vs = [.int .i64 room, va, .pointer (some ⟨bd, 0, none⟩), nV .i64 i] ∧ ∃ zs d, d.Q ∧ d.calls ≤ i + 1 ∧ d.room = room ∧ (tot d.now : Int) ≤ room ∧ St Wz G0 (Ky (.pointer (some ⟨bd, 0, none⟩) : Value) (Dk zs d) :: Ky PoolK.a (Pl zs) :: []) W') ?_ ?_
      · rintro vs W _ ⟨rfl, h⟩
        exact app4 ⟨rfl, h⟩
      refine w_eql (ifd (fun hr0 => ?_) fun hr0 => ?_)
      · obtain ⟨g1, g2, g3, g4⟩ := f5 hr0
        refine a_fld0 (h.load (a_lss (ifd_neg (by omega) ?_)))
        refine a_fld0 (h.load (x_lenS (h.osl (v := x)) (a_gtr (ifd_neg (by omega) ?_))))
        refine a_fld0 (h.load ?_)
        refine a_sliceH elB (h.osl (v := x)) g1 g2 fun v1 hv1 => ?_
        refine bytes_spec (l := gt o.name r.1.now) (m := (gt o.name d.now).take o.a.toNat) (h.osl (v := y)) (By.cutH g1 g2 hv1) ?_
        rw [decide_eq_true g3]
        (repeat (first | (with_reducible refine ift ?_) | (with_reducible refine iff' ?_) | (with_reducible refine a_lss ?_) | (with_reducible refine a_leq ?_) | (with_reducible refine a_gtr ?_) | (with_reducible refine a_geq ?_) | (with_reducible refine w_eql ?_) | (with_reducible refine w_neq ?_) | (with_reducible refine s_eql ?_) | (with_reducible refine s_neq ?_) | ((with_reducible refine a_add64 ?h0 ?h1 ?_); (case h0 => omega); (case h1 => omega);  skip) | ((with_reducible refine a_sub64 ?h0 ?h1 ?_); (case h0 => omega); (case h1 => omega);  skip) | ((with_reducible refine a_mul64 ?h0 ?h1 ?_); (case h0 => omega); (case h1 => omega);  skip) | (with_reducible refine a_notd ?_) | (with_reducible refine a_not ?_) | (with_reducible refine a_ext0 ?_) | (with_reducible refine a_ext1 ?_) | (with_reducible refine a_ext2 ?_) | (with_reducible refine x_len ?_) | (with_reducible refine x_lens ?_) | (with_reducible refine x_eqb ?_) | (with_reducible refine x_neb ?_) | (with_reducible refine x_nilP ?_) | (with_reducible refine x_nilPn ?_) | (with_reducible refine x_nilF ?_) | (with_reducible refine x_nilFF ?_) | (with_reducible refine w_eqlL ?_) | (with_reducible refine w_neqL ?_) | (with_reducible refine s_eqlL ?_) | (with_reducible refine ifnt ?_) | (with_reducible refine ifnf ?_) | (with_reducible refine x_eqB ?_) | (with_reducible refine x_neB ?_) | (with_reducible refine x_lssL ?_) | (with_reducible refine x_gtrL ?_) | (with_reducible refine x_geqL ?_) | (with_reducible refine s_neqL ?_) | (with_reducible refine St.load h ?_) | (with_reducible refine St.loadS h ?_) | (with_reducible refine a_fld0 ?_) | (with_reducible refine St.store h fun W h => ?_) | (with_reducible refine St.storeS h fun W h => ?_) | (with_reducible refine St.alloc h fun b W h => ?_) | (with_reducible refine St.allocS h fun b W h => ?_) | (with_reducible refine a_nil ?_) | (with_reducible refine ss_load ?_) | (with_reducible refine ss_loadS ?_) | (with_reducible refine ss_eqb ?_)))
        refine ifd_neg (by simpa using hr0) ?_
        exact ⟨rfl, zs2, r.1, q2, by omega, f3.trans hrm, by omega, h.to⟩
      · refine w_neq (ifd_pos hr0 ?_)
        refine alike_spec (freezeD (v := (.pointer (some ⟨bd, 0, none⟩) : Value)) h) (freezeD (v := (.pointer (some ⟨bc, 0, none⟩) : Value)) h) (by omega) (by omega) fun W hb5 => ?_
        replace h := h.ext hb5
        rw [decide_eq_true (f4 hr0)]
        (repeat (first | (with_reducible refine ift ?_) | (with_reducible refine iff' ?_) | (with_reducible refine a_lss ?_) | (with_reducible refine a_leq ?_) | (with_reducible refine a_gtr ?_) | (with_reducible refine a_geq ?_) | (with_reducible refine w_eql ?_) | (with_reducible refine w_neq ?_) | (with_reducible refine s_eql ?_) | (with_reducible refine s_neq ?_) | ((with_reducible refine a_add64 ?h0 ?h1 ?_); (case h0 => omega); (case h1 => omega);  skip) | ((with_reducible refine a_sub64 ?h0 ?h1 ?_); (case h0 => omega); (case h1 => omega);  skip) | ((with_reducible refine a_mul64 ?h0 ?h1 ?_); (case h0 => omega); (case h1 => omega);  skip) | (with_reducible refine a_notd ?_) | (with_reducible refine a_not ?_) | (with_reducible refine a_ext0 ?_) | (with_reducible refine a_ext1 ?_) | (with_reducible refine a_ext2 ?_) | (with_reducible refine x_len ?_) | (with_reducible refine x_lens ?_) | (with_reducible refine x_eqb ?_) | (with_reducible refine x_neb ?_) | (with_reducible refine x_nilP ?_) | (with_reducible refine x_nilPn ?_) | (with_reducible refine x_nilF ?_) | (with_reducible refine x_nilFF ?_) | (with_reducible refine w_eqlL ?_) | (with_reducible refine w_neqL ?_) | (with_reducible refine s_eqlL ?_) | (with_reducible refine ifnt ?_) | (with_reducible refine ifnf ?_) | (with_reducible refine x_eqB ?_) | (with_reducible refine x_neB ?_) | (with_reducible refine x_lssL ?_) | (with_reducible refine x_gtrL ?_) | (with_reducible refine x_geqL ?_) | (with_reducible refine s_neqL ?_) | (with_reducible refine St.load h ?_) | (with_reducible refine St.loadS h ?_) | (with_reducible refine a_fld0 ?_) | (with_reducible refine St.store h fun W h => ?_) | (with_reducible refine St.storeS h fun W h => ?_) | (with_reducible refine St.alloc h fun b W h => ?_) | (with_reducible refine St.allocS h fun b W h => ?_) | (with_reducible refine a_nil ?_) | (with_reducible refine ss_load ?_) | (with_reducible refine ss_loadS ?_) | (with_reducible refine ss_eqb ?_)))
        exact ⟨rfl, zs2, r.1, q2, by omega, f3.trans hrm, by rw [f4 hr0]; exact htt, h.to⟩
    · exact ⟨rfl, zs, d, q, by omega, hrm, htt, h.to⟩
  · exact out h.low
end
end Go.Proofs.Ytdoopdbfajgnjaa
