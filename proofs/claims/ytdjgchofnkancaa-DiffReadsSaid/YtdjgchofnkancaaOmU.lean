/-
  TEXTS, each once, rising: what the document's Unique answers.
-/
import Derived.Test.YtdjgchofnkancaaOmEsi
namespace Go.Proofs.Ytdjgchofnkancaa
open Go Go.Ez Go.RowKit
set_option linter.unusedSimpArgs false
set_option linter.unusedVariables false

/-- texts, each once, as a map to nothing -/
def uniqM (ls : List Txt) : List (Txt × Unit) := ls.foldl (fun m s => putK s () m) []
def uniq (ls : List Txt) : List Txt := (uniqM ls).map Prod.fst
theorem uniqM_srt (ls : List Txt) : Srt (uniqM ls) := by
  have : ∀ (ls : List Txt) (m : List (Txt × Unit)), Srt m → Srt (ls.foldl (fun m s => putK s () m) m) := by
    intro ls
    induction ls with
    | nil => intro m hm; exact hm
    | cons s ls ih => intro m hm; exact ih _ (srt_put hm)
  exact this ls [] List.Pairwise.nil
theorem uniqM_snoc (ls : List Txt) (s : Txt) : uniqM (ls ++ [s]) = putK s () (uniqM ls) := by simp [uniqM, List.foldl_append]
theorem putK_len {κ β : Type} [OKey κ] [DecidableEq κ] (k : κ) (v : β) (m : List (κ × β)) : (putK k v m).length ≤ m.length + 1 := by
  have := posK_le k m
  unfold putK
  split <;> simp [List.length_take, List.length_drop] <;> omega
theorem uniqM_len (ls : List Txt) : (uniqM ls).length ≤ ls.length := by
  have : ∀ (ls : List Txt) (m : List (Txt × Unit)), (ls.foldl (fun m s => putK s () m) m).length ≤ m.length + ls.length := by
    intro ls
    induction ls with
    | nil => intro m; simp
    | cons s ls ih => intro m; have h1 := ih (putK s () m); have h2 := putK_len s () m; simp only [List.foldl_cons, List.length_cons]; omega
  have := this ls []
  rw [List.length_nil, Nat.zero_add] at this
  exact this
theorem put_fst (s : Txt) (m : List (Txt × Unit)) : (putK s () m).map Prod.fst = if hasK s m then m.map Prod.fst else (m.map Prod.fst).take (posK s m) ++ s :: (m.map Prod.fst).drop (posK s m) := by
  unfold putK
  split
  · rename_i h
    obtain ⟨u, hu⟩ := hasK_spec.1 h
    rw [List.map_set]
    refine List.ext_getElem? fun i => ?_
    by_cases hi : posK s m = i
    · subst hi
      rw [List.getElem?_set_self (by rw [List.length_map]; exact (List.getElem?_eq_some_iff.1 hu).1), List.getElem?_map, hu]; rfl
    · rw [List.getElem?_set_ne hi]
  · simp [List.map_take, List.map_drop]

/-- hblref.Unique -/
theorem unique_spec {ls : List Txt} {v : Value} {n : Nat} {w : World} {R : Value → World → Prop} (hv : Sl w 1 v n (ls.map Enc.enc)) (hl : ls.length ≤ 1000000)
    (k : ∀ v' W', W'.ownsRow w.heap.size 9 1 v' (uniq ls).length ((uniq ls).map Enc.enc) → Below w.heap.size w W' → R v' W') : CallF Try.prog 21 #[v] w R := by
  refine sh21_calls ?_
  unfold sh21
  have hn : n = ls.length := by obtain ⟨_, _, _, _, h, _⟩ := hv; simpa using h.symm
  subst hn
  refine lpx (α := Nat × Value) (fun x => [x.2, nV .i64 x.1]) (fun x W => x.1 ≤ ls.length ∧ St w G0 [Ky x.2 (Ow 9 1 (uniq (ls.take x.1)).length ((uniq (ls.take x.1)).map Enc.enc))] W) (fun x => ls.length - x.1) (0, .slice none 0 0) (fun _ => rfl) rfl ⟨Nat.zero_le _, (St.start w).nilOw⟩ ?_
  rintro next ⟨i, u⟩ W hnext ⟨hi, h⟩
  simp only at hi h
  refine app2 ?_
  refine x_lenS hv ?_
  refine a_lss (ifd (fun hc => ?_) fun hc => ?_)
  · have hil : i < ls.length := by omega
    obtain ⟨s, hs⟩ : ∃ s, ls[i]? = some s := ⟨_, List.getElem?_eq_getElem hil⟩
    have hsv : (ls.map (Enc.enc (κ := Txt)))[i]? = some (Enc.enc s) := by rw [List.getElem?_map, hs]; rfl
    have hsnoc : uniqM (ls.take (i + 1)) = putK s () (uniqM (ls.take i)) := by rw [List.take_add_one, hs]; exact uniqM_snoc _ s
    have hsrt := uniqM_srt (ls.take i)
    have hul := uniqM_len (ls.take i)
    have hut : uniq (ls.take (i + 1)) = (putK s () (uniqM (ls.take i))).map Prod.fst := by unfold uniq; rw [hsnoc]
    rw [put_fst] at hut
    rw [List.length_take] at hul
    have hudef : uniq (ls.take i) = (uniqM (ls.take i)).map Prod.fst := rfl
    rw [hudef] at h
    generalize uniqM (ls.take i) = m at *
    have hple := posK_le s m
    refine jni (fun vs W => ∃ u', vs = [v, u', nV .i64 i] ∧ St w G0 [Ky u' (Ow 9 1 (uniq (ls.take (i + 1))).length ((uniq (ls.take (i + 1))).map Enc.enc))] W) ?_ ?_
    · rintro vs W' _ ⟨u', rfl, h⟩
      refine app3 ?_
      refine a_add64 (by omega) (by omega) ⟨rfl, ?_⟩
      rw [show ((i : Int) + 1) = ((i + 1 : Nat) : Int) by push_cast; rfl]
      exact hnext (i + 1, u') W' (by omega) ⟨by omega, h⟩
    refine x_lenS (h.osl (v := u)) ?_
    rw [List.length_map] at h ⊢
    -- the scan
    refine jni (fun vs W => vs = [v, u, nV .i64 i, nV .i64 (posK s m)] ∧ St w G0 [Ky u (Ow 9 1 m.length ((m.map Prod.fst).map Enc.enc))] W) ?_ ?_
    · rintro vs W _ ⟨rfl, h⟩
      refine app4 ?_
      refine jni (fun vs W => vs = [v, u, nV .i64 i, nV .i64 (posK s m)] ∧ hasK s m = false ∧ St w G0 [Ky u (Ow 9 1 m.length ((m.map Prod.fst).map Enc.enc))] W) ?_ ?_
      · rintro vs W _ ⟨rfl, hh, h⟩
        refine app4 ?_
        refine ⟨fun W' => Sl W' 1 v ls.length (ls.map Enc.enc), h.drew.sl0 hv, ?_⟩
        replace h := h.drew
        refine x_cutOw (v := u) h hple ?_
        refine x_sat (w1 := W.drew) (h.sl0 hv) (fun w' hw => hw) hsv ?_
        refine x_cutRd (h.osl (v := u)) hple fun t hts => ?_
        refine h.litB (vs := [Enc.enc s]) (fun t1 W1 o1 m1 h1 => ?_) (by decide)
        refine St.app (v := t1) h1 (hts.below m1) (fun c hc => by obtain ⟨x, _, rfl⟩ := List.mem_map.1 (List.mem_of_mem_drop hc); exact Enc.one x) (by unfold maxLen; omega) (by omega) fun t2 W2 o2 h2 _ => ?_
        replace h2 := (St.find (k := u) (X := Ow 9 1 m.length ((m.map Prod.fst).map Enc.enc)) h2).cutOw (v := u) hple
        refine St.app (v := cutV u (posK s m)) h2 (h2.osl (v := t2)) (fun c hc => ?_) (by unfold maxLen; omega) (by omega) fun t3 W3 o3 h3 _ => ?_
        · rcases List.mem_append.1 hc with hc | hc
          · rw [List.mem_singleton] at hc; subst hc; exact Enc.one s
          · obtain ⟨x, _, rfl⟩ := List.mem_map.1 (List.mem_of_mem_drop hc); exact Enc.one x
        · rw [hh, if_neg (by simp)] at hut
          refine ⟨t3, rfl, ?_⟩
          rw [hut]
          have e1 : posK s m + (1 + (m.length - posK s m)) = ((m.map Prod.fst).take (posK s m) ++ s :: (m.map Prod.fst).drop (posK s m)).length := by
            simp only [List.length_append, List.length_take, List.length_cons, List.length_drop, List.length_map]; omega
          have e2 : ((m.map Prod.fst).map (Enc.enc (κ := Txt))).take (posK s m * 1) ++ ([Enc.enc s] ++ ((m.map Prod.fst).map Enc.enc).drop (posK s m * 1)) = ((m.map Prod.fst).take (posK s m) ++ s :: (m.map Prod.fst).drop (posK s m)).map Enc.enc := by
            simp only [Nat.mul_one, List.map_append, List.map_cons, List.map_take, List.map_drop, List.singleton_append]
          rw [e1, e2] at h3
          exact h3.to
      · refine ⟨fun W' => W' = W.drew, rfl, ?_⟩
        have h' := h.drew
        refine x_lenSs (h.osl (v := u)) ?_
        refine a_lss (ifd (fun hc => ?_) fun hc => ?_)
        · obtain ⟨p, hp⟩ : ∃ p, m[posK s m]? = some p := ⟨_, List.getElem?_eq_getElem (by omega)⟩
          refine x_sat (h'.osl (v := u)) (fun w' hw => by subst hw; exact h'.osl (v := u)) (by rw [List.getElem?_map, List.getElem?_map, hp]; rfl) ?_
          refine x_sat (w1 := W.drew) (h'.sl0 hv) (fun w' hw => by subst hw; exact h'.sl0 hv) hsv ?_
          have hhas : hasK s m = decide (p.1 = s) := by unfold hasK; rw [hp]
          refine s_eqlL (ifd (fun hc => ?_) fun hc => ?_)
          · have hps : p.1 = s := hc
            rw [hhas, decide_eq_true hps, if_pos rfl] at hut
            refine ⟨u, rfl, ?_⟩
            rw [hut, List.length_map]
            exact h'
          · have hps : p.1 ≠ s := hc
            exact ⟨rfl, by rw [hhas, decide_eq_false hps], h'⟩
        · have hhas : hasK s m = false := by unfold hasK; rw [List.getElem?_eq_none (by omega)]
          exact ⟨rfl, hhas, h'⟩
    · refine lpx (α := Nat) (fun j => [nV .i64 j]) (fun j W => posK s m ≤ j ∧ j ≤ m.length ∧ St w G0 [Ky u (Ow 9 1 m.length ((m.map Prod.fst).map Enc.enc))] W) (fun j => j) m.length (fun _ => rfl) rfl ⟨hple, Nat.le_refl _, h⟩ ?_
      rintro nxt j W hnxt ⟨hj1, hj2, h⟩
      refine app1 ?_
      refine ⟨fun W' => W' = W.drew, rfl, ?_⟩
      have h' := h.drew
      refine a_gtr (ifd (fun hc => ?_) fun hc => ?_)
      · have hj0 : 0 < j := by omega
        refine a_sub64 (by omega) (by omega) ?_
        rw [show ((j : Int) - 1) = ((j - 1 : Nat) : Int) by omega]
        obtain ⟨p, hp⟩ : ∃ p, m[j - 1]? = some p := ⟨_, List.getElem?_eq_getElem (by omega)⟩
        refine x_sat (h'.osl (v := u)) (fun w' hw => by subst hw; exact h'.osl (v := u)) (by rw [List.getElem?_map, List.getElem?_map, hp]; rfl) ?_
        refine x_sat (w1 := W.drew) (h'.sl0 hv) (fun w' hw => by subst hw; exact h'.sl0 hv) hsv ?_
        have hiff := posK_iff (k := s) hsrt hp
        refine x_geqL (ifnb (fun hb => ?_) fun hb => ?_)
        · refine a_sub64 (by omega) (by omega) ⟨rfl, rfl, rfl, ?_⟩
          rw [show ((j : Int) - 1) = ((j - 1 : Nat) : Int) by omega]
          refine hnxt (j - 1) _ (by omega) ⟨?_, by omega, h'⟩
          rcases Nat.lt_or_ge (j - 1) (posK s m) with h1 | h1
          · have := hiff.2 h1
            have hb' : OKey.lt p.1 s = false := hb
            rw [hb'] at this; cases this
          · exact h1
        · have := hiff.1 hb
          obtain rfl : j = posK s m := by omega
          exact ⟨rfl, h'⟩
      · obtain rfl : j = posK s m := by omega
        exact ⟨rfl, h'⟩
  · have hil : i = ls.length := by omega
    subst hil
    rw [List.take_length] at h
    exact k u W (h.owG (v := u)) h.low
end Go.Proofs.Ytdjgchofnkancaa
