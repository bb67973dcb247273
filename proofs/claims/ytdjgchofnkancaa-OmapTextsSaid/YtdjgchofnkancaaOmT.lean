/-
  OmapTexts: a map of texts to numbers tells its keys rising, each once, with the last number: the walk.
-/
import Derived.Test.YtdjgchofnkancaaOmG
import Derived.Test.YtdjgchofnkancaaOmKsi
import Derived.Test.YtdjgchofnkancaaOmU
namespace Go.Proofs.Ytdjgchofnkancaa
open Go Go.Ez Go.RowKit
set_option linter.unusedSimpArgs false
set_option linter.unusedVariables false

/-- where k stands hangs on the keys alone -/
theorem pos_fst {κ β γ : Type} [OKey κ] [DecidableEq κ] {k : κ} : ∀ {m : List (κ × β)} {n : List (κ × γ)}, m.map Prod.fst = n.map Prod.fst → posK k m = posK k n ∧ hasK k m = hasK k n := by
  intro m n h
  have hp : ∀ {m : List (κ × β)} {n : List (κ × γ)}, m.map Prod.fst = n.map Prod.fst → posK k m = posK k n := by
    intro m
    induction m with
    | nil => intro n h; cases n with
      | nil => rfl
      | cons _ _ => simp at h
    | cons p m ih =>
      intro n h
      cases n with
      | nil => simp at h
      | cons q n =>
        simp only [List.map_cons, List.cons.injEq] at h
        unfold posK
        rw [h.1, ih h.2]
  refine ⟨hp h, ?_⟩
  unfold hasK
  have hx : (m[posK k m]?).map Prod.fst = (n[posK k n]?).map Prod.fst := by rw [← List.getElem?_map, ← List.getElem?_map, h, hp h]
  cases h1 : m[posK k m]? <;> cases h2 : n[posK k n]? <;> rw [h1, h2] at hx <;> simp at hx ⊢
  rw [hx]
theorem put_fstG {κ β : Type} [OKey κ] [DecidableEq κ] (s : κ) (v : β) (m : List (κ × β)) : (putK s v m).map Prod.fst = if hasK s m then m.map Prod.fst else (m.map Prod.fst).take (posK s m) ++ s :: (m.map Prod.fst).drop (posK s m) := by
  unfold putK
  split
  · rename_i h
    obtain ⟨u, hu⟩ := hasK_spec.1 h
    rw [List.map_set]
    refine List.ext_getElem? fun i => ?_
    by_cases hi : posK s m = i
    · subst hi
      rw [List.getElem?_set_self (by rw [List.length_map]; exact (List.getElem?_eq_some_iff.1 hu).1), List.getElem?_map, hu]; rfl
    · rw [List.getElem?_set_ne hi]
  · simp [List.map_take, List.map_drop]
theorem put_fstE {κ β γ : Type} [OKey κ] [DecidableEq κ] {k : κ} {v : β} {u : γ} {m : List (κ × β)} {n : List (κ × γ)} (h : m.map Prod.fst = n.map Prod.fst) : (putK k v m).map Prod.fst = (putK k u n).map Prod.fst := by
  rw [put_fstG, put_fstG, (pos_fst h).1, (pos_fst h).2, h]

/-- the first i texts, put in with their numbers -/
def tmap (ls : List Txt) : Nat → List (Txt × Int)
  | 0 => []
  | i + 1 => match ls[i]? with
    | some s => putK s (i : Int) (tmap ls i)
    | none => tmap ls i
theorem tmap_srt (ls : List Txt) : ∀ i, Srt (tmap ls i)
  | 0 => List.Pairwise.nil
  | i + 1 => by unfold tmap; split; exact srt_put (tmap_srt ls i); exact tmap_srt ls i
theorem tmap_len (ls : List Txt) : ∀ i, (tmap ls i).length ≤ i
  | 0 => Nat.le_refl _
  | i + 1 => by
    have := tmap_len ls i
    unfold tmap
    split
    · have := putK_len ‹Txt› (i : Int) (tmap ls i); omega
    · omega
theorem tmap_keys (ls : List Txt) : ∀ i, (tmap ls i).map Prod.fst = uniq (ls.take i)
  | 0 => rfl
  | i + 1 => by
    unfold tmap
    rw [List.take_add_one]
    split
    · rename_i s hs
      rw [hs]
      unfold uniq
      rw [show (some s).toList = [s] from rfl, uniqM_snoc]
      exact put_fstE (tmap_keys ls i)
    · rename_i hs
      rw [hs, show (none : Option Txt).toList = [] from rfl, List.append_nil]
      exact tmap_keys ls i
theorem tmap_get (ls : List Txt) : ∀ (i : Nat) (s : Txt), (∀ x, getK s (tmap ls i) = some x → ∃ X : Nat, x = (X : Int) ∧ X < i ∧ ls[X]? = some s ∧ ∀ j, j < i → ls[j]? = some s → j ≤ X) ∧ (getK s (tmap ls i) = none → ∀ j, j < i → ls[j]? ≠ some s)
  | 0, s => ⟨fun x h => by simp [tmap, getK] at h, fun _ j hj => by omega⟩
  | i + 1, s => by
    have ih := tmap_get ls i s
    have hs := tmap_srt ls i
    unfold tmap
    split
    · rename_i t ht
      rw [get_put hs]
      split
      · rename_i he
        subst he
        refine ⟨fun x h => ?_, fun h => by cases h⟩
        cases h
        exact ⟨i, rfl, by omega, ht, fun j hj _ => by omega⟩
      · rename_i hne
        refine ⟨fun x h => ?_, fun h j hj hjs => ?_⟩
        · obtain ⟨X, h1, h2, h3, h4⟩ := ih.1 x h
          refine ⟨X, h1, by omega, h3, fun j hj hjs => ?_⟩
          by_cases hji : j = i
          · subst hji; rw [ht] at hjs; cases hjs; exact absurd rfl hne
          · exact h4 j (by omega) hjs
        · by_cases hji : j = i
          · subst hji; rw [ht] at hjs; cases hjs; exact absurd rfl hne
          · exact ih.2 h j (by omega) hjs
    · rename_i hn
      refine ⟨fun x h => ?_, fun h j hj hjs => ?_⟩
      · obtain ⟨X, h1, h2, h3, h4⟩ := ih.1 x h
        refine ⟨X, h1, by omega, h3, fun j hj hjs => ?_⟩
        by_cases hji : j = i
        · subst hji; rw [hn] at hjs; cases hjs
        · exact h4 j (by omega) hjs
      · by_cases hji : j = i
        · subst hji; rw [hn] at hjs; cases hjs
        · exact ih.2 h j (by omega) hjs

/-- hbllaw2.OmapTexts -/
theorem texts_spec {ls : List Txt} {v : Value} {n : Nat} {w : World} {R : Value → World → Prop} (hv : Sl w 1 v n (ls.map Enc.enc)) (hbig : ls.length ≤ 9223372036854775807)
    (h : ∀ w', Below w.heap.size w w' → R (.bool true) w') : CallF Try.prog 3 #[v] w R := by
  refine sh3_calls ?_
  unfold sh3
  have hn : n = ls.length := by obtain ⟨_, _, _, _, h, _⟩ := hv; simpa using h.symm
  subst hn
  have hR := h
  have h := St.start w
  refine first2_spec fun W m => ?_
  replace h := h.ext m
  (repeat (first | (with_reducible refine ift ?_) | (with_reducible refine iff' ?_) | (with_reducible refine a_lss ?_) | (with_reducible refine a_leq ?_) | (with_reducible refine a_gtr ?_) | (with_reducible refine a_geq ?_) | (with_reducible refine w_eql ?_) | (with_reducible refine w_neq ?_) | (with_reducible refine s_eql ?_) | (with_reducible refine s_neq ?_) | ((with_reducible refine a_add64 ?h0 ?h1 ?_); (case h0 => omega); (case h1 => omega);  skip) | ((with_reducible refine a_sub64 ?h0 ?h1 ?_); (case h0 => omega); (case h1 => omega);  skip) | ((with_reducible refine a_mul64 ?h0 ?h1 ?_); (case h0 => omega); (case h1 => omega);  skip) | (with_reducible refine a_notd ?_) | (with_reducible refine a_not ?_) | (with_reducible refine a_ext0 ?_) | (with_reducible refine a_ext1 ?_) | (with_reducible refine a_ext2 ?_) | (with_reducible refine x_len ?_) | (with_reducible refine x_lens ?_) | (with_reducible refine x_eqb ?_) | (with_reducible refine x_neb ?_) | (with_reducible refine x_nilP ?_) | (with_reducible refine x_nilPn ?_) | (with_reducible refine x_nilF ?_) | (with_reducible refine x_nilFF ?_) | (with_reducible refine w_eqlL ?_) | (with_reducible refine w_neqL ?_) | (with_reducible refine s_eqlL ?_) | (with_reducible refine ifnt ?_) | (with_reducible refine ifnf ?_) | (with_reducible refine x_eqB ?_) | (with_reducible refine x_neB ?_) | (with_reducible refine x_lssL ?_) | (with_reducible refine x_gtrL ?_) | (with_reducible refine x_geqL ?_) | (with_reducible refine s_neqL ?_) | (with_reducible refine St.load h ?_) | (with_reducible refine St.loadS h ?_) | (with_reducible refine a_fld0 ?_) | (with_reducible refine St.store h fun W h => ?_) | (with_reducible refine St.storeS h fun W h => ?_) | (with_reducible refine St.alloc h fun b W h => ?_) | (with_reducible refine St.allocS h fun b W h => ?_) | (with_reducible refine a_nil ?_) | (with_reducible refine ss_load ?_) | (with_reducible refine ss_loadS ?_) | (with_reducible refine ss_eqb ?_)))
  refine newsi_spec h fun mv W h => ?_
  obtain ⟨b, rfl, _⟩ := h.ptrM (v := mv)
  (repeat (first | (with_reducible refine ift ?_) | (with_reducible refine iff' ?_) | (with_reducible refine a_lss ?_) | (with_reducible refine a_leq ?_) | (with_reducible refine a_gtr ?_) | (with_reducible refine a_geq ?_) | (with_reducible refine w_eql ?_) | (with_reducible refine w_neq ?_) | (with_reducible refine s_eql ?_) | (with_reducible refine s_neq ?_) | ((with_reducible refine a_add64 ?h0 ?h1 ?_); (case h0 => omega); (case h1 => omega);  skip) | ((with_reducible refine a_sub64 ?h0 ?h1 ?_); (case h0 => omega); (case h1 => omega);  skip) | ((with_reducible refine a_mul64 ?h0 ?h1 ?_); (case h0 => omega); (case h1 => omega);  skip) | (with_reducible refine a_notd ?_) | (with_reducible refine a_not ?_) | (with_reducible refine a_ext0 ?_) | (with_reducible refine a_ext1 ?_) | (with_reducible refine a_ext2 ?_) | (with_reducible refine x_len ?_) | (with_reducible refine x_lens ?_) | (with_reducible refine x_eqb ?_) | (with_reducible refine x_neb ?_) | (with_reducible refine x_nilP ?_) | (with_reducible refine x_nilPn ?_) | (with_reducible refine x_nilF ?_) | (with_reducible refine x_nilFF ?_) | (with_reducible refine w_eqlL ?_) | (with_reducible refine w_neqL ?_) | (with_reducible refine s_eqlL ?_) | (with_reducible refine ifnt ?_) | (with_reducible refine ifnf ?_) | (with_reducible refine x_eqB ?_) | (with_reducible refine x_neB ?_) | (with_reducible refine x_lssL ?_) | (with_reducible refine x_gtrL ?_) | (with_reducible refine x_geqL ?_) | (with_reducible refine s_neqL ?_) | (with_reducible refine St.load h ?_) | (with_reducible refine St.loadS h ?_) | (with_reducible refine a_fld0 ?_) | (with_reducible refine St.store h fun W h => ?_) | (with_reducible refine St.storeS h fun W h => ?_) | (with_reducible refine St.alloc h fun b W h => ?_) | (with_reducible refine St.allocS h fun b W h => ?_) | (with_reducible refine a_nil ?_) | (with_reducible refine ss_load ?_) | (with_reducible refine ss_loadS ?_) | (with_reducible refine ss_eqb ?_)))
  refine iff' ?_
  refine x_lenS hv ?_
  refine a_gtr (ifd (fun hc => ?_) fun hc => ?_)
  · (repeat (first | (with_reducible refine ift ?_) | (with_reducible refine iff' ?_) | (with_reducible refine a_lss ?_) | (with_reducible refine a_leq ?_) | (with_reducible refine a_gtr ?_) | (with_reducible refine a_geq ?_) | (with_reducible refine w_eql ?_) | (with_reducible refine w_neq ?_) | (with_reducible refine s_eql ?_) | (with_reducible refine s_neq ?_) | ((with_reducible refine a_add64 ?h0 ?h1 ?_); (case h0 => omega); (case h1 => omega);  skip) | ((with_reducible refine a_sub64 ?h0 ?h1 ?_); (case h0 => omega); (case h1 => omega);  skip) | ((with_reducible refine a_mul64 ?h0 ?h1 ?_); (case h0 => omega); (case h1 => omega);  skip) | (with_reducible refine a_notd ?_) | (with_reducible refine a_not ?_) | (with_reducible refine a_ext0 ?_) | (with_reducible refine a_ext1 ?_) | (with_reducible refine a_ext2 ?_) | (with_reducible refine x_len ?_) | (with_reducible refine x_lens ?_) | (with_reducible refine x_eqb ?_) | (with_reducible refine x_neb ?_) | (with_reducible refine x_nilP ?_) | (with_reducible refine x_nilPn ?_) | (with_reducible refine x_nilF ?_) | (with_reducible refine x_nilFF ?_) | (with_reducible refine w_eqlL ?_) | (with_reducible refine w_neqL ?_) | (with_reducible refine s_eqlL ?_) | (with_reducible refine ifnt ?_) | (with_reducible refine ifnf ?_) | (with_reducible refine x_eqB ?_) | (with_reducible refine x_neB ?_) | (with_reducible refine x_lssL ?_) | (with_reducible refine x_gtrL ?_) | (with_reducible refine x_geqL ?_) | (with_reducible refine s_neqL ?_) | (with_reducible refine St.load h ?_) | (with_reducible refine St.loadS h ?_) | (with_reducible refine a_fld0 ?_) | (with_reducible refine St.store h fun W h => ?_) | (with_reducible refine St.storeS h fun W h => ?_) | (with_reducible refine St.alloc h fun b W h => ?_) | (with_reducible refine St.allocS h fun b W h => ?_) | (with_reducible refine a_nil ?_) | (with_reducible refine ss_load ?_) | (with_reducible refine ss_loadS ?_) | (with_reducible refine ss_eqb ?_)))
    refine ift ?_
    exact first2_spec fun W m => hR W (h.ext m).low
  have hl : ls.length ≤ 200 := by omega
  refine lpx (α := Nat) (fun i => [nV .i64 i]) (fun i W => i ≤ ls.length ∧ St w G0 [Ky (.pointer (some ⟨b, 0, none⟩) : Value) (Mpsi (tmap ls i))] W) (fun i => ls.length - i) 0 (fun _ => rfl) rfl ⟨Nat.zero_le _, h⟩ ?_
  rintro next i W hnext ⟨hi, h⟩
  refine app1 ?_
  have hml := tmap_len ls i
  refine x_lenS hv ?_
  refine a_lss (ifd (fun hc => ?_) fun hc => ?_)
  · obtain ⟨s, hs⟩ : ∃ s, ls[i]? = some s := ⟨_, List.getElem?_eq_getElem (by omega)⟩
    have hsv : (ls.map (Enc.enc (κ := Txt)))[i]? = some (Enc.enc s) := by rw [List.getElem?_map, hs]; rfl
    refine x_at (h.sl0 hv) hsv ?_
    refine (show RunW _ (Builtin.len_ _ _ #[.string ⟨s.toArray⟩]) _ _ from ?_)
    (repeat (first | (with_reducible refine ift ?_) | (with_reducible refine iff' ?_) | (with_reducible refine a_lss ?_) | (with_reducible refine a_leq ?_) | (with_reducible refine a_gtr ?_) | (with_reducible refine a_geq ?_) | (with_reducible refine w_eql ?_) | (with_reducible refine w_neq ?_) | (with_reducible refine s_eql ?_) | (with_reducible refine s_neq ?_) | ((with_reducible refine a_add64 ?h0 ?h1 ?_); (case h0 => omega); (case h1 => omega);  skip) | ((with_reducible refine a_sub64 ?h0 ?h1 ?_); (case h0 => omega); (case h1 => omega);  skip) | ((with_reducible refine a_mul64 ?h0 ?h1 ?_); (case h0 => omega); (case h1 => omega);  skip) | (with_reducible refine a_notd ?_) | (with_reducible refine a_not ?_) | (with_reducible refine a_ext0 ?_) | (with_reducible refine a_ext1 ?_) | (with_reducible refine a_ext2 ?_) | (with_reducible refine x_len ?_) | (with_reducible refine x_lens ?_) | (with_reducible refine x_eqb ?_) | (with_reducible refine x_neb ?_) | (with_reducible refine x_nilP ?_) | (with_reducible refine x_nilPn ?_) | (with_reducible refine x_nilF ?_) | (with_reducible refine x_nilFF ?_) | (with_reducible refine w_eqlL ?_) | (with_reducible refine w_neqL ?_) | (with_reducible refine s_eqlL ?_) | (with_reducible refine ifnt ?_) | (with_reducible refine ifnf ?_) | (with_reducible refine x_eqB ?_) | (with_reducible refine x_neB ?_) | (with_reducible refine x_lssL ?_) | (with_reducible refine x_gtrL ?_) | (with_reducible refine x_geqL ?_) | (with_reducible refine s_neqL ?_) | (with_reducible refine St.load h ?_) | (with_reducible refine St.loadS h ?_) | (with_reducible refine a_fld0 ?_) | (with_reducible refine St.store h fun W h => ?_) | (with_reducible refine St.storeS h fun W h => ?_) | (with_reducible refine St.alloc h fun b W h => ?_) | (with_reducible refine St.allocS h fun b W h => ?_) | (with_reducible refine a_nil ?_) | (with_reducible refine ss_load ?_) | (with_reducible refine ss_loadS ?_) | (with_reducible refine ss_eqb ?_)))
    refine ifd (fun hc => ?_) fun hc => ?_
    · exact first2_spec fun W m => hR W (h.ext m).low
    refine x_at (h.sl0 hv) hsv ?_
    refine putsi_spec (v := (.pointer (some ⟨b, 0, none⟩) : Value)) (k := s) (x := (i : Int)) h (by omega) fun W h => ?_
    (repeat (first | (with_reducible refine ift ?_) | (with_reducible refine iff' ?_) | (with_reducible refine a_lss ?_) | (with_reducible refine a_leq ?_) | (with_reducible refine a_gtr ?_) | (with_reducible refine a_geq ?_) | (with_reducible refine w_eql ?_) | (with_reducible refine w_neq ?_) | (with_reducible refine s_eql ?_) | (with_reducible refine s_neq ?_) | ((with_reducible refine a_add64 ?h0 ?h1 ?_); (case h0 => omega); (case h1 => omega);  skip) | ((with_reducible refine a_sub64 ?h0 ?h1 ?_); (case h0 => omega); (case h1 => omega);  skip) | ((with_reducible refine a_mul64 ?h0 ?h1 ?_); (case h0 => omega); (case h1 => omega);  skip) | (with_reducible refine a_notd ?_) | (with_reducible refine a_not ?_) | (with_reducible refine a_ext0 ?_) | (with_reducible refine a_ext1 ?_) | (with_reducible refine a_ext2 ?_) | (with_reducible refine x_len ?_) | (with_reducible refine x_lens ?_) | (with_reducible refine x_eqb ?_) | (with_reducible refine x_neb ?_) | (with_reducible refine x_nilP ?_) | (with_reducible refine x_nilPn ?_) | (with_reducible refine x_nilF ?_) | (with_reducible refine x_nilFF ?_) | (with_reducible refine w_eqlL ?_) | (with_reducible refine w_neqL ?_) | (with_reducible refine s_eqlL ?_) | (with_reducible refine ifnt ?_) | (with_reducible refine ifnf ?_) | (with_reducible refine x_eqB ?_) | (with_reducible refine x_neB ?_) | (with_reducible refine x_lssL ?_) | (with_reducible refine x_gtrL ?_) | (with_reducible refine x_geqL ?_) | (with_reducible refine s_neqL ?_) | (with_reducible refine St.load h ?_) | (with_reducible refine St.loadS h ?_) | (with_reducible refine a_fld0 ?_) | (with_reducible refine St.store h fun W h => ?_) | (with_reducible refine St.storeS h fun W h => ?_) | (with_reducible refine St.alloc h fun b W h => ?_) | (with_reducible refine St.allocS h fun b W h => ?_) | (with_reducible refine a_nil ?_) | (with_reducible refine ss_load ?_) | (with_reducible refine ss_loadS ?_) | (with_reducible refine ss_eqb ?_)))
    refine ⟨rfl, rfl, ?_⟩
    rw [show ((i : Int) + 1) = ((i + 1 : Nat) : Int) by push_cast; rfl]
    refine hnext (i + 1) W (by omega) ⟨by omega, ?_⟩
    have e : tmap ls (i + 1) = putK s (i : Int) (tmap ls i) := by simp only [tmap, hs]
    rw [e]; exact h
  have hil : i = ls.length := by omega
  subst hil
  have hget := tmap_get ls ls.length
  have hkeys := tmap_keys ls ls.length
  rw [List.take_length] at hkeys
  generalize tmap ls ls.length = m at *
  refine allsi_spec (v := .pointer (some ⟨b, 0, none⟩)) h (by omega) fun f1 b1 W hI h => ?_
  refine keyssi_spec (f := f1) hI (fun x hx => by obtain ⟨p, _, rfl⟩ := List.mem_map.1 hx; rfl) h fun f2 b2 W hI h => ?_
  refine x_lenS hv ?_
  refine a_add64 (by omega) (by omega) ?_
  have etell : (tellsi m).map (List.take 1) = (m.map Prod.fst).map fun k => [Enc.enc k] := by simp [tellsi]
  rw [etell] at hI
  refine takesi_spec (f := f2) (ks := m.map Prod.fst) hI h (by rw [List.length_map]; omega) fun kv W o h => ?_
  have etake : (m.map Prod.fst).take ((ls.length : Int) + 1).toNat = m.map Prod.fst := List.take_of_length_le (by rw [List.length_map]; omega)
  rw [etake] at h
  replace h := (h.untwo (k := f2)).untwo (k := f1)
  refine unique_spec (h.sl0 hv) (by omega) fun uv W2 hu m2 => ?_
  replace h := h.take m2 hu
  refine eqsi_spec (xs := m.map Prod.fst) (ys := uniq ls) (h.osl (v := kv)) (h.osl (v := uv)) (by rw [List.length_map]; omega) fun W m3 => ?_
  replace h := h.ext m3
  rw [decide_eq_true hkeys]
  (repeat (first | (with_reducible refine ift ?_) | (with_reducible refine iff' ?_) | (with_reducible refine a_lss ?_) | (with_reducible refine a_leq ?_) | (with_reducible refine a_gtr ?_) | (with_reducible refine a_geq ?_) | (with_reducible refine w_eql ?_) | (with_reducible refine w_neq ?_) | (with_reducible refine s_eql ?_) | (with_reducible refine s_neq ?_) | ((with_reducible refine a_add64 ?h0 ?h1 ?_); (case h0 => omega); (case h1 => omega);  skip) | ((with_reducible refine a_sub64 ?h0 ?h1 ?_); (case h0 => omega); (case h1 => omega);  skip) | ((with_reducible refine a_mul64 ?h0 ?h1 ?_); (case h0 => omega); (case h1 => omega);  skip) | (with_reducible refine a_notd ?_) | (with_reducible refine a_not ?_) | (with_reducible refine a_ext0 ?_) | (with_reducible refine a_ext1 ?_) | (with_reducible refine a_ext2 ?_) | (with_reducible refine x_len ?_) | (with_reducible refine x_lens ?_) | (with_reducible refine x_eqb ?_) | (with_reducible refine x_neb ?_) | (with_reducible refine x_nilP ?_) | (with_reducible refine x_nilPn ?_) | (with_reducible refine x_nilF ?_) | (with_reducible refine x_nilFF ?_) | (with_reducible refine w_eqlL ?_) | (with_reducible refine w_neqL ?_) | (with_reducible refine s_eqlL ?_) | (with_reducible refine ifnt ?_) | (with_reducible refine ifnf ?_) | (with_reducible refine x_eqB ?_) | (with_reducible refine x_neB ?_) | (with_reducible refine x_lssL ?_) | (with_reducible refine x_gtrL ?_) | (with_reducible refine x_geqL ?_) | (with_reducible refine s_neqL ?_) | (with_reducible refine St.load h ?_) | (with_reducible refine St.loadS h ?_) | (with_reducible refine a_fld0 ?_) | (with_reducible refine St.store h fun W h => ?_) | (with_reducible refine St.storeS h fun W h => ?_) | (with_reducible refine St.alloc h fun b W h => ?_) | (with_reducible refine St.allocS h fun b W h => ?_) | (with_reducible refine a_nil ?_) | (with_reducible refine ss_load ?_) | (with_reducible refine ss_loadS ?_) | (with_reducible refine ss_eqb ?_)))
  refine lensi_spec (v := .pointer (some ⟨b, 0, none⟩)) h ?_
  refine x_lenS (h.osl (v := kv)) ?_
  refine w_neq (ifd_neg (by rw [List.length_map]; simp) ?_)
  refine lpx (α := Nat) (fun i => [nV .i64 i]) (fun i W => i ≤ ls.length ∧ St w G0 [Ky (.pointer (some ⟨b, 0, none⟩) : Value) (Mpsi m)] W) (fun i => ls.length - i) 0 (fun _ => rfl) rfl ⟨Nat.zero_le _, h.to⟩ ?_
  rintro next i W hnext ⟨hi, h⟩
  refine app1 ?_
  refine x_lenS hv ?_
  refine a_lss (ifd (fun hc => ?_) fun hc => ?_)
  · obtain ⟨s, hs⟩ : ∃ s, ls[i]? = some s := ⟨_, List.getElem?_eq_getElem (by omega)⟩
    have hsv : (ls.map (Enc.enc (κ := Txt)))[i]? = some (Enc.enc s) := by rw [List.getElem?_map, hs]; rfl
    refine x_at (h.sl0 hv) hsv ?_
    refine getsi_spec (v := .pointer (some ⟨b, 0, none⟩)) (k := s) h (by omega) (fun x W' hx h _ => ?_) fun W' hx _ _ => absurd hs ((hget s).2 hx i (by omega))
    obtain ⟨X, rfl, hX1, hX2, hX3⟩ := (hget s).1 x hx
    have hXi := hX3 i (by omega) hs
    have hXv : (ls.map (Enc.enc (κ := Txt)))[X]? = some (Enc.enc s) := by rw [List.getElem?_map, hX2]; rfl
    (repeat (first | (with_reducible refine ift ?_) | (with_reducible refine iff' ?_) | (with_reducible refine a_lss ?_) | (with_reducible refine a_leq ?_) | (with_reducible refine a_gtr ?_) | (with_reducible refine a_geq ?_) | (with_reducible refine w_eql ?_) | (with_reducible refine w_neq ?_) | (with_reducible refine s_eql ?_) | (with_reducible refine s_neq ?_) | ((with_reducible refine a_add64 ?h0 ?h1 ?_); (case h0 => omega); (case h1 => omega);  skip) | ((with_reducible refine a_sub64 ?h0 ?h1 ?_); (case h0 => omega); (case h1 => omega);  skip) | ((with_reducible refine a_mul64 ?h0 ?h1 ?_); (case h0 => omega); (case h1 => omega);  skip) | (with_reducible refine a_notd ?_) | (with_reducible refine a_not ?_) | (with_reducible refine a_ext0 ?_) | (with_reducible refine a_ext1 ?_) | (with_reducible refine a_ext2 ?_) | (with_reducible refine x_len ?_) | (with_reducible refine x_lens ?_) | (with_reducible refine x_eqb ?_) | (with_reducible refine x_neb ?_) | (with_reducible refine x_nilP ?_) | (with_reducible refine x_nilPn ?_) | (with_reducible refine x_nilF ?_) | (with_reducible refine x_nilFF ?_) | (with_reducible refine w_eqlL ?_) | (with_reducible refine w_neqL ?_) | (with_reducible refine s_eqlL ?_) | (with_reducible refine ifnt ?_) | (with_reducible refine ifnf ?_) | (with_reducible refine x_eqB ?_) | (with_reducible refine x_neB ?_) | (with_reducible refine x_lssL ?_) | (with_reducible refine x_gtrL ?_) | (with_reducible refine x_geqL ?_) | (with_reducible refine s_neqL ?_) | (with_reducible refine St.load h ?_) | (with_reducible refine St.loadS h ?_) | (with_reducible refine a_fld0 ?_) | (with_reducible refine St.store h fun W h => ?_) | (with_reducible refine St.storeS h fun W h => ?_) | (with_reducible refine St.alloc h fun b W h => ?_) | (with_reducible refine St.allocS h fun b W h => ?_) | (with_reducible refine a_nil ?_) | (with_reducible refine ss_load ?_) | (with_reducible refine ss_loadS ?_) | (with_reducible refine ss_eqb ?_)))
    refine ⟨fun W => Sl W 1 v ls.length (ls.map Enc.enc), h.drew.sl0 hv, ?_⟩
    replace h := h.drew
    (repeat (first | (with_reducible refine ift ?_) | (with_reducible refine iff' ?_) | (with_reducible refine a_lss ?_) | (with_reducible refine a_leq ?_) | (with_reducible refine a_gtr ?_) | (with_reducible refine a_geq ?_) | (with_reducible refine w_eql ?_) | (with_reducible refine w_neq ?_) | (with_reducible refine s_eql ?_) | (with_reducible refine s_neq ?_) | ((with_reducible refine a_add64 ?h0 ?h1 ?_); (case h0 => omega); (case h1 => omega);  skip) | ((with_reducible refine a_sub64 ?h0 ?h1 ?_); (case h0 => omega); (case h1 => omega);  skip) | ((with_reducible refine a_mul64 ?h0 ?h1 ?_); (case h0 => omega); (case h1 => omega);  skip) | (with_reducible refine a_notd ?_) | (with_reducible refine a_not ?_) | (with_reducible refine a_ext0 ?_) | (with_reducible refine a_ext1 ?_) | (with_reducible refine a_ext2 ?_) | (with_reducible refine x_len ?_) | (with_reducible refine x_lens ?_) | (with_reducible refine x_eqb ?_) | (with_reducible refine x_neb ?_) | (with_reducible refine x_nilP ?_) | (with_reducible refine x_nilPn ?_) | (with_reducible refine x_nilF ?_) | (with_reducible refine x_nilFF ?_) | (with_reducible refine w_eqlL ?_) | (with_reducible refine w_neqL ?_) | (with_reducible refine s_eqlL ?_) | (with_reducible refine ifnt ?_) | (with_reducible refine ifnf ?_) | (with_reducible refine x_eqB ?_) | (with_reducible refine x_neB ?_) | (with_reducible refine x_lssL ?_) | (with_reducible refine x_gtrL ?_) | (with_reducible refine x_geqL ?_) | (with_reducible refine s_neqL ?_) | (with_reducible refine St.load h ?_) | (with_reducible refine St.loadS h ?_) | (with_reducible refine a_fld0 ?_) | (with_reducible refine St.store h fun W h => ?_) | (with_reducible refine St.storeS h fun W h => ?_) | (with_reducible refine St.alloc h fun b W h => ?_) | (with_reducible refine St.allocS h fun b W h => ?_) | (with_reducible refine a_nil ?_) | (with_reducible refine ss_load ?_) | (with_reducible refine ss_loadS ?_) | (with_reducible refine ss_eqb ?_)))
    refine (show RunA _ (bin .lss _ _ _ (.int .i64 (X : Int)) _) _ from ?_)
    refine a_lss (ifd_neg (by omega) ?_)
    refine x_lenSs hv ?_
    refine a_geq (ifd_neg (by omega) ?_)
    refine x_sat (w1 := w) hv (fun _ hw => hw) hXv ?_
    refine x_sat (w1 := w) hv (fun _ hw => hw) hsv ?_
    refine s_neqL (ifd_neg (by simp) ?_)
    (repeat (first | (with_reducible refine ift ?_) | (with_reducible refine iff' ?_) | (with_reducible refine a_lss ?_) | (with_reducible refine a_leq ?_) | (with_reducible refine a_gtr ?_) | (with_reducible refine a_geq ?_) | (with_reducible refine w_eql ?_) | (with_reducible refine w_neq ?_) | (with_reducible refine s_eql ?_) | (with_reducible refine s_neq ?_) | ((with_reducible refine a_add64 ?h0 ?h1 ?_); (case h0 => omega); (case h1 => omega);  skip) | ((with_reducible refine a_sub64 ?h0 ?h1 ?_); (case h0 => omega); (case h1 => omega);  skip) | ((with_reducible refine a_mul64 ?h0 ?h1 ?_); (case h0 => omega); (case h1 => omega);  skip) | (with_reducible refine a_notd ?_) | (with_reducible refine a_not ?_) | (with_reducible refine a_ext0 ?_) | (with_reducible refine a_ext1 ?_) | (with_reducible refine a_ext2 ?_) | (with_reducible refine x_len ?_) | (with_reducible refine x_lens ?_) | (with_reducible refine x_eqb ?_) | (with_reducible refine x_neb ?_) | (with_reducible refine x_nilP ?_) | (with_reducible refine x_nilPn ?_) | (with_reducible refine x_nilF ?_) | (with_reducible refine x_nilFF ?_) | (with_reducible refine w_eqlL ?_) | (with_reducible refine w_neqL ?_) | (with_reducible refine s_eqlL ?_) | (with_reducible refine ifnt ?_) | (with_reducible refine ifnf ?_) | (with_reducible refine x_eqB ?_) | (with_reducible refine x_neB ?_) | (with_reducible refine x_lssL ?_) | (with_reducible refine x_gtrL ?_) | (with_reducible refine x_geqL ?_) | (with_reducible refine s_neqL ?_) | (with_reducible refine St.load h ?_) | (with_reducible refine St.loadS h ?_) | (with_reducible refine a_fld0 ?_) | (with_reducible refine St.store h fun W h => ?_) | (with_reducible refine St.storeS h fun W h => ?_) | (with_reducible refine St.alloc h fun b W h => ?_) | (with_reducible refine St.allocS h fun b W h => ?_) | (with_reducible refine a_nil ?_) | (with_reducible refine ss_load ?_) | (with_reducible refine ss_loadS ?_) | (with_reducible refine ss_eqb ?_)))
    refine ⟨rfl, rfl, ?_⟩
    rw [show ((i : Int) + 1) = ((i + 1 : Nat) : Int) by push_cast; rfl]
    exact hnext (i + 1) _ (by omega) ⟨by omega, h⟩
  · exact first2_spec fun W m => hR W (h.ext m).low
end Go.Proofs.Ytdjgchofnkancaa
