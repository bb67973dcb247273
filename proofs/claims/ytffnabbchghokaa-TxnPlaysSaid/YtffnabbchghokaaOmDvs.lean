/-
  MAPS IN ORDER ([string, []handbill/vers.Version[string]]): a pair taken out of a slice, of a map; a map copied: what each function answers.
-/
import Derived.Test.YtffnabbchghokaaOmCvs
namespace Go.Proofs.Ytffnabbchghokaa
open Go Go.Ez Go.RowKit
set_option linter.unusedSimpArgs false
set_option linter.unusedVariables false

section
variable {w0 W : World} {G : Nat → Prop} {l R : List As} {RR : Value → World → Prop}

theorem sdeletevs_spec {v : Value} {n i : Nat} {xs : List Value} [Has l v (Ow 163 2 n xs) R] (h : St w0 G l W) (hx : ∀ c ∈ xs, c.oneCell' = true) (hi : i < n) (hn : n ≤ 1000000000)
    (k : ∀ v' W', Cel1 v' → St w0 G (Ky v' (Ow 163 2 (n - 1) (xs.take (i * 2) ++ xs.drop ((i + 1) * 2))) :: R) W' → RR v' W') :
    CallF Try.prog 114 #[v, nV .i64 i, nV .i64 ((i + 1 : Nat))] W RR := by
  refine sh114_calls ?_
  unfold sh114
  have hlen : xs.length = n * 2 := (h.ow (v := v)).1
  rcases h.openOw (v := v) with ⟨_, h0, _, _⟩ | ⟨g, cap, cur, rfl, hnc, hcm, hcl, htk, h⟩
  · omega
  have hcap : cap ≤ 9223372036854775807 := by unfold maxLen at hcm; exact hcm
  refine x_lenE ?_
  refine x_sl3 (by omega) (by omega) (by omega) fun _ => ?_
  refine w_eql (ifd_neg (by omega) ?_)
  refine x_lenE ?_
  refine ⟨fun _ => True, trivial, ?_⟩
  replace h := h.drew
  refine x_slH (by omega) ?_
  refine x_slL (by omega) ?_
  have hnl : (xs.drop ((i + 1) * 2)).length = (n - (i + 1)) * 2 := by rw [List.length_drop, hlen]; omega
  refine St.appRoom (g := g) (n := i) (m := n - (i + 1)) (news := xs.drop ((i + 1) * 2)) h hnl (fun j x hj => ?_) (fun c hc => hx c (List.mem_of_mem_drop hc)) (by omega) (by rw [hnl, hcl]; omega) fun W h => ?_
  · rw [addr_add]
    have hjl := (List.getElem?_eq_some_iff.1 hj).1
    rw [hnl] at hjl
    have ho : offs cap (i + 1) 0 2 = (i + 1) * 2 := by unfold offs; rw [if_neg (by omega), Nat.zero_add]
    rw [ho]
    rw [← htk, List.getElem?_drop, List.getElem?_take] at hj
    split at hj
    · exact h.cellOf (g := g) hj
    · cases hj
  rw [show i + (n - (i + 1)) = n - 1 by omega]
  refine x_lenE ?_
  refine x_slLH (by omega) (by omega) ?_
  have ho : offs cap (n - 1) 0 2 = (n - 1) * 2 := by unfold offs; rw [if_neg (by omega), Nat.zero_add]
  rw [ho, show n - (n - 1) = 1 by omega]
  have hsl : (cur.take (i * 2) ++ xs.drop ((i + 1) * 2) ++ cur.drop (i * 2 + (xs.drop ((i + 1) * 2)).length)).length = cap * 2 := by
    rw [splice_len (by rw [hnl, hcl]; omega), hcl]
  refine St.clear (g := g) (n := 1) h (by decide +kernel) (by rw [hsl]; omega) fun W h => ?_
  refine k _ W ⟨rfl⟩ ?_
  have hA : cur.take (i * 2) = xs.take (i * 2) := by rw [← htk, List.take_take, Nat.min_eq_left (by omega)]
  refine (St.shutOw (g := g) (sz := 2) (n := n - 1) (cap := cap) (xs := xs.take (i * 2) ++ xs.drop ((i + 1) * 2)) h (by omega) hcm ?_ ?_).to
  · generalize hZ : zerosL _ 1 = Z
    have hZl : Z.length = 1 * 2 := by rw [← hZ]; exact zerosL_length rfl
    rw [← hZl, splice_len (by rw [hsl, hZl]; omega), hsl]
  · rw [hA, List.append_assoc (List.take _ _), take_len (by rw [List.length_take, List.length_append, List.length_append, List.length_take, hlen, hnl, List.length_drop, hcl]; omega)]
    exact take_len (by rw [List.length_append, List.length_take, hlen, hnl]; omega)

variable {m : List (Txt × OneV)} {v : Value}
theorem deletevs_spec [i : Has l v (Mpvs m) R] (h : St w0 G l W) {k : Txt} (hl : m.length ≤ 1000000) (kk : ∀ W', St w0 G (Ky v (Mpvs (delK k m)) :: R) W' → RR (.bool (hasK k m)) W') :
    CallF Try.prog 81 #[v, Enc.enc k] W RR := by
  refine sh81_calls ?_
  unfold sh81
  refine findvs_spec h (by omega) fun W hb => ?_
  replace h := h.ext hb
  obtain ⟨b, sl, rfl, hs, o, h⟩ := h.openM (v := v)
  have hp := posK_le k m
  have hpl := pcells_length m
  (repeat (first | (with_reducible refine ift ?_) | (with_reducible refine iff' ?_) | (with_reducible refine a_lss ?_) | (with_reducible refine a_leq ?_) | (with_reducible refine a_gtr ?_) | (with_reducible refine a_geq ?_) | (with_reducible refine w_eql ?_) | (with_reducible refine w_neq ?_) | (with_reducible refine s_eql ?_) | (with_reducible refine s_neq ?_) | ((with_reducible refine a_add64 ?h0 ?h1 ?_); (case h0 => omega); (case h1 => omega);  skip) | ((with_reducible refine a_sub64 ?h0 ?h1 ?_); (case h0 => omega); (case h1 => omega);  skip) | ((with_reducible refine a_mul64 ?h0 ?h1 ?_); (case h0 => omega); (case h1 => omega);  skip) | (with_reducible refine a_notd ?_) | (with_reducible refine a_not ?_) | (with_reducible refine a_ext0 ?_) | (with_reducible refine a_ext1 ?_) | (with_reducible refine a_ext2 ?_) | (with_reducible refine x_len ?_) | (with_reducible refine x_lens ?_) | (with_reducible refine x_eqb ?_) | (with_reducible refine x_neb ?_) | (with_reducible refine x_nilP ?_) | (with_reducible refine x_nilPn ?_) | (with_reducible refine x_nilF ?_) | (with_reducible refine x_nilFF ?_) | (with_reducible refine w_eqlL ?_) | (with_reducible refine w_neqL ?_) | (with_reducible refine s_eqlL ?_) | (with_reducible refine ifnt ?_) | (with_reducible refine ifnf ?_) | (with_reducible refine x_eqB ?_) | (with_reducible refine x_neB ?_) | (with_reducible refine x_lssL ?_) | (with_reducible refine x_gtrL ?_) | (with_reducible refine x_geqL ?_) | (with_reducible refine s_neqL ?_) | (with_reducible refine St.load h ?_) | (with_reducible refine St.loadS h ?_) | (with_reducible refine a_fld0 ?_) | (with_reducible refine St.store h fun W h => ?_) | (with_reducible refine St.storeS h fun W h => ?_) | (with_reducible refine St.alloc h fun b W h => ?_) | (with_reducible refine St.allocS h fun b W h => ?_) | (with_reducible refine a_nil ?_) | (with_reducible refine ss_load ?_) | (with_reducible refine ss_loadS ?_) | (with_reducible refine ss_eqb ?_)))
  refine jni (fun vs W => vs = [.bool (hasK k m)] ∧ St w0 G (Ky (.pointer (some ⟨b, 0, none⟩)) (Mpvs (delK k m)) :: R) W) ?_ ?_
  · rintro vs W' _ ⟨rfl, h⟩
    exact app1 (kk W' h)
  · refine ifb (fun hh => ?_) fun hh => ?_
    · obtain ⟨u, hu⟩ := hasK_spec.1 hh
      have hil := (List.getElem?_eq_some_iff.1 hu).1
      (repeat (first | (with_reducible refine ift ?_) | (with_reducible refine iff' ?_) | (with_reducible refine a_lss ?_) | (with_reducible refine a_leq ?_) | (with_reducible refine a_gtr ?_) | (with_reducible refine a_geq ?_) | (with_reducible refine w_eql ?_) | (with_reducible refine w_neq ?_) | (with_reducible refine s_eql ?_) | (with_reducible refine s_neq ?_) | ((with_reducible refine a_add64 ?h0 ?h1 ?_); (case h0 => omega); (case h1 => omega);  skip) | ((with_reducible refine a_sub64 ?h0 ?h1 ?_); (case h0 => omega); (case h1 => omega);  skip) | ((with_reducible refine a_mul64 ?h0 ?h1 ?_); (case h0 => omega); (case h1 => omega);  skip) | (with_reducible refine a_notd ?_) | (with_reducible refine a_not ?_) | (with_reducible refine a_ext0 ?_) | (with_reducible refine a_ext1 ?_) | (with_reducible refine a_ext2 ?_) | (with_reducible refine x_len ?_) | (with_reducible refine x_lens ?_) | (with_reducible refine x_eqb ?_) | (with_reducible refine x_neb ?_) | (with_reducible refine x_nilP ?_) | (with_reducible refine x_nilPn ?_) | (with_reducible refine x_nilF ?_) | (with_reducible refine x_nilFF ?_) | (with_reducible refine w_eqlL ?_) | (with_reducible refine w_neqL ?_) | (with_reducible refine s_eqlL ?_) | (with_reducible refine ifnt ?_) | (with_reducible refine ifnf ?_) | (with_reducible refine x_eqB ?_) | (with_reducible refine x_neB ?_) | (with_reducible refine x_lssL ?_) | (with_reducible refine x_gtrL ?_) | (with_reducible refine x_geqL ?_) | (with_reducible refine s_neqL ?_) | (with_reducible refine St.load h ?_) | (with_reducible refine St.loadS h ?_) | (with_reducible refine a_fld0 ?_) | (with_reducible refine St.store h fun W h => ?_) | (with_reducible refine St.storeS h fun W h => ?_) | (with_reducible refine St.alloc h fun b W h => ?_) | (with_reducible refine St.allocS h fun b W h => ?_) | (with_reducible refine a_nil ?_) | (with_reducible refine ss_load ?_) | (with_reducible refine ss_loadS ?_) | (with_reducible refine ss_eqb ?_)))
      rw [show ((posK k m : Int) + 1) = ((posK k m + 1 : Nat) : Int) by push_cast; rfl]
      refine sdeletevs_spec (v := sl) h (pcells_one m) hil (by omega) fun v' W o' h => ?_
      (repeat (first | (with_reducible refine ift ?_) | (with_reducible refine iff' ?_) | (with_reducible refine a_lss ?_) | (with_reducible refine a_leq ?_) | (with_reducible refine a_gtr ?_) | (with_reducible refine a_geq ?_) | (with_reducible refine w_eql ?_) | (with_reducible refine w_neq ?_) | (with_reducible refine s_eql ?_) | (with_reducible refine s_neq ?_) | ((with_reducible refine a_add64 ?h0 ?h1 ?_); (case h0 => omega); (case h1 => omega);  skip) | ((with_reducible refine a_sub64 ?h0 ?h1 ?_); (case h0 => omega); (case h1 => omega);  skip) | ((with_reducible refine a_mul64 ?h0 ?h1 ?_); (case h0 => omega); (case h1 => omega);  skip) | (with_reducible refine a_notd ?_) | (with_reducible refine a_not ?_) | (with_reducible refine a_ext0 ?_) | (with_reducible refine a_ext1 ?_) | (with_reducible refine a_ext2 ?_) | (with_reducible refine x_len ?_) | (with_reducible refine x_lens ?_) | (with_reducible refine x_eqb ?_) | (with_reducible refine x_neb ?_) | (with_reducible refine x_nilP ?_) | (with_reducible refine x_nilPn ?_) | (with_reducible refine x_nilF ?_) | (with_reducible refine x_nilFF ?_) | (with_reducible refine w_eqlL ?_) | (with_reducible refine w_neqL ?_) | (with_reducible refine s_eqlL ?_) | (with_reducible refine ifnt ?_) | (with_reducible refine ifnf ?_) | (with_reducible refine x_eqB ?_) | (with_reducible refine x_neB ?_) | (with_reducible refine x_lssL ?_) | (with_reducible refine x_gtrL ?_) | (with_reducible refine x_geqL ?_) | (with_reducible refine s_neqL ?_) | (with_reducible refine St.load h ?_) | (with_reducible refine St.loadS h ?_) | (with_reducible refine a_fld0 ?_) | (with_reducible refine St.store h fun W h => ?_) | (with_reducible refine St.storeS h fun W h => ?_) | (with_reducible refine St.alloc h fun b W h => ?_) | (with_reducible refine St.allocS h fun b W h => ?_) | (with_reducible refine a_nil ?_) | (with_reducible refine ss_load ?_) | (with_reducible refine ss_loadS ?_) | (with_reducible refine ss_eqb ?_)))
      refine ⟨by rw [hh], h.shutM (b := b) (sl := v') (srt_del hs) ?_ ?_⟩
      · unfold delK; rw [if_pos hh]; simp [List.length_take, List.length_drop]; omega
      · unfold delK; rw [if_pos hh, pcells_append, pcells_take, pcells_drop]
    · refine ⟨by rw [hh], ?_⟩
      have e : delK k m = m := by unfold delK; rw [hh]; rfl
      rw [e]
      exact h.shutM (b := b) (sl := sl) hs rfl rfl

theorem copyvs_spec [i : Has l v (Mpvs m) R] (h : St w0 G l W) (hl : m.length ≤ 1000000) (kk : ∀ c W', St w0 G (Ky c (Mpvs m) :: Ky v (Mpvs m) :: R) W' → RR c W') :
    CallF Try.prog 87 #[v] W RR := by
  refine sh87_calls ?_
  unfold sh87
  obtain ⟨b, sl, rfl, hs, o, h⟩ := h.openM (v := v)
  (repeat (first | (with_reducible refine ift ?_) | (with_reducible refine iff' ?_) | (with_reducible refine a_lss ?_) | (with_reducible refine a_leq ?_) | (with_reducible refine a_gtr ?_) | (with_reducible refine a_geq ?_) | (with_reducible refine w_eql ?_) | (with_reducible refine w_neq ?_) | (with_reducible refine s_eql ?_) | (with_reducible refine s_neq ?_) | ((with_reducible refine a_add64 ?h0 ?h1 ?_); (case h0 => omega); (case h1 => omega);  skip) | ((with_reducible refine a_sub64 ?h0 ?h1 ?_); (case h0 => omega); (case h1 => omega);  skip) | ((with_reducible refine a_mul64 ?h0 ?h1 ?_); (case h0 => omega); (case h1 => omega);  skip) | (with_reducible refine a_notd ?_) | (with_reducible refine a_not ?_) | (with_reducible refine a_ext0 ?_) | (with_reducible refine a_ext1 ?_) | (with_reducible refine a_ext2 ?_) | (with_reducible refine x_len ?_) | (with_reducible refine x_lens ?_) | (with_reducible refine x_eqb ?_) | (with_reducible refine x_neb ?_) | (with_reducible refine x_nilP ?_) | (with_reducible refine x_nilPn ?_) | (with_reducible refine x_nilF ?_) | (with_reducible refine x_nilFF ?_) | (with_reducible refine w_eqlL ?_) | (with_reducible refine w_neqL ?_) | (with_reducible refine s_eqlL ?_) | (with_reducible refine ifnt ?_) | (with_reducible refine ifnf ?_) | (with_reducible refine x_eqB ?_) | (with_reducible refine x_neB ?_) | (with_reducible refine x_lssL ?_) | (with_reducible refine x_gtrL ?_) | (with_reducible refine x_geqL ?_) | (with_reducible refine s_neqL ?_) | (with_reducible refine St.load h ?_) | (with_reducible refine St.loadS h ?_) | (with_reducible refine a_fld0 ?_) | (with_reducible refine St.store h fun W h => ?_) | (with_reducible refine St.storeS h fun W h => ?_) | (with_reducible refine St.alloc h fun b W h => ?_) | (with_reducible refine St.allocS h fun b W h => ?_) | (with_reducible refine a_nil ?_) | (with_reducible refine ss_load ?_) | (with_reducible refine ss_loadS ?_) | (with_reducible refine ss_eqb ?_)))
  refine clonevs_spec (h.osl (v := sl)) (pcells_one m) (by omega) fun cl W1 g1 g2 => ?_
  replace h := (h.take g2 g1).shutM (b := b) (sl := sl) hs rfl rfl
  have oc : Cel1 cl := .of_own (h.ow (v := cl))
  refine x_bld (cells := #[cl]) (by obtain ⟨ao, cap, rfl, _⟩ := h.osl (v := cl); rfl) ?_
  refine h.boxS (cs := [cl]) fun bc W h => ?_
  exact kk _ W (h.shutM (b := bc) (sl := cl) hs rfl rfl)
end
end Go.Proofs.Ytffnabbchghokaa
