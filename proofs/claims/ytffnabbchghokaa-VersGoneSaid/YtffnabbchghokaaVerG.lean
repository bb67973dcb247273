/-
  VERSIONS: a key killed, put again, pruned: VersGone: plainly, and the walk.
-/
import Derived.Test.YtffnabbchghokaaVerT
namespace Go.Ez
open Go
section
variable {β : Type}
/-- what a version shows -/
def verV (v : Ver β) : Option β := if v.2.2 then none else some v.2.1
theorem told3 (a b c : Ver β) (t : Int) : toldC [a, b, c] t = if t < c.1 then (if t < b.1 then (if t < a.1 then none else verV a) else verV b) else verV c := by
  unfold toldC seenN
  simp only [List.length_cons, List.length_nil, seenF, List.getElem?_cons_zero, List.getElem?_cons_succ]
  by_cases h1 : t < c.1
  · by_cases h2 : t < b.1
    · by_cases h3 : t < a.1 <;> simp [h1, h2, h3, verV]
    · simp [h1, h2, verV]
  · simp [h1, verV]
theorem putK_one (k : Txt) (c d : List (Ver β)) : putK k d [(k, c)] = [(k, d)] := by simp [putK, hasK, posK, OKey.irr]
theorem chainR_one (k : Txt) (c : List (Ver β)) : chainR [(k, c)] k = c := by simp [chainR, getK]
theorem addR_nil {low : Int} {k : Txt} {v : Ver β} (h1 : 1 ≤ v.1) (h2 : v.1 ≤ 1099511627776) (h3 : low ≤ v.1) : addR [] low k v = (0, [(k, [v])]) := by
  have hc : chainR ([] : VRows β) k = [] := rfl
  unfold addR
  rw [hc, if_neg (by omega), if_neg (by show ¬(v.1 ≤ 0 ∨ v.1 < low); omega)]
  rfl
theorem addR_one {low : Int} {k : Txt} {c : List (Ver β)} {v : Ver β} (h1 : 1 ≤ v.1) (h2 : v.1 ≤ 1099511627776) (h3 : low ≤ v.1) (h4 : lastC c < v.1) : addR [(k, c)] low k v = (0, [(k, c ++ [v])]) := by
  unfold addR
  rw [chainR_one, if_neg (by omega), if_neg (by omega), putK_one]
theorem addR_no {low : Int} {k : Txt} {c : List (Ver β)} {v : Ver β} (h1 : 1 ≤ v.1) (h2 : v.1 ≤ 1099511627776) (h4 : v.1 ≤ lastC c) : addR [(k, c)] low k v = (12, [(k, c)]) := by
  unfold addR
  rw [chainR_one, if_neg (by omega), if_pos (.inl h4)]
end
end Go.Ez
namespace Go.Proofs.Ytffnabbchghokaa
open Go Go.Ez Go.RowKit
set_option linter.unusedSimpArgs false
set_option linter.unusedVariables false
section
variable {W : World} {RR : Value → World → Prop}

/-- hbllaw11.VersGone -/
theorem gone_spec {Wz : World} {a b c : Int} {key v w : Txt} (k : ∀ W', Below Wz.heap.size Wz W' → RR (.bool true) W') :
    CallF Try.prog 5 #[.int .i64 a, .int .i64 b, .int .i64 c, strV key, strV v, strV w] Wz RR := by
  refine sh5_calls ?_
  unfold sh5
  refine vfirst_spec fun W1 hb1 => ?_
  refine a_not (iff' ?_)
  refine VsI.new_spec ((St.start Wz).ext hb1) fun bv W2 h => ?_
  refine jni (fun vs W' => ∃ t, vs = [.int .i64 a, .int .i64 b, .int .i64 c, strV key, strV v, strV w, .pointer (some ⟨bv, 0, none⟩), .bool t] ∧ (t = false → 1 ≤ a ∧ a ≤ 1073741824 ∧ 1 ≤ b ∧ b ≤ 1073741824 ∧ 1 ≤ c ∧ c ≤ 1073741824) ∧ VsI Wz (.pointer (some ⟨bv, 0, none⟩)) [] 0 [] W') ?_ ?_
  · rintro vs W3 _ ⟨t, rfl, ht, h⟩
    refine app8 ?_
    refine ifb (fun _ => ?_) fun hf => ?_
    · refine x_nilPn (ift ?_)
      exact h.first_spec fun W4 h => k W4 h.low'
    obtain ⟨ha1, ha2, hb1, hb2, hc1, hc2⟩ := ht hf
    generalize (.pointer (some ⟨bv, 0, none⟩) : Value) = s at *
    refine a_add64 (by omega) (by omega) (a_add64 (by omega) (by omega) (a_add64 (by omega) (by omega) ?_))
    have r1 := addR_nil (β := Txt) (low := 0) (k := key) (v := (a, v, false)) (by simp only; omega) (by simp only; omega) (by simp only; omega)
    refine h.add_spec (n := 0) ⟨Nat.le_refl _, fun r hr => by cases hr⟩ (by decide) fun W4 h => ?_
    rw [r1] at h ⊢
    refine w_neq (ifd_neg (fun h => h rfl) ?_)
    have hbd : ∀ c : List (Ver Txt), c.length ≤ 3 → Bd 3 [(key, c)] := fun c hc => ⟨by simp, fun r hr => by
      obtain rfl : r = (key, c) := by simpa using hr
      exact hc⟩
    have r2 := addR_one (β := Txt) (low := 0) (k := key) (c := [(a, v, false)]) (v := (a + b, [], true)) (by simp only; omega) (by simp only; omega) (by simp only; omega) (by show a < a + b; omega)
    refine h.kill_spec (hbd _ (by simp)) (by decide) fun W5 h => ?_
    rw [r2] at h ⊢
    refine w_neq (ifd_neg (fun h => h rfl) ?_)
    have r3 := addR_one (β := Txt) (low := 0) (k := key) (c := [(a, v, false)] ++ [(a + b, [], true)]) (v := (a + b + c, w, false)) (by simp only; omega) (by simp only; omega) (by simp only; omega) (by show a + b < a + b + c; omega)
    refine h.add_spec (hbd _ (by simp)) (by decide) fun W6 h => ?_
    rw [r3] at h ⊢
    refine w_neq (ifd_neg (fun h => h rfl) ?_)
    replace h : VsI Wz s [(key, [(a, v, false), (a + b, [], true), (a + b + c, w, false)])] 0 [] W6 := h
    generalize hcc : ([(a, v, false), (a + b, [], true), (a + b + c, w, false)] : List (Ver Txt)) = cc at h
    have hlast : lastC cc = a + b + c := by rw [← hcc]; rfl
    have hb3 := hbd cc (by rw [← hcc]; simp)
    have r4 := addR_no (β := Txt) (low := 0) (k := key) (c := cc) (v := (a + b + c, w, false)) (by simp only; omega) (by simp only; omega) (by rw [hlast]; exact Int.le_refl _)
    refine h.add_spec hb3 (by decide) fun W7 h => ?_
    rw [r4] at h ⊢
    refine w_neq (ifd_neg (fun h => h rfl) ?_)
    have r5 := addR_no (β := Txt) (low := 0) (k := key) (c := cc) (v := (a, [], true)) (by simp only; omega) (by simp only; omega) (by rw [hlast]; simp only; omega)
    refine h.kill_spec hb3 (by decide) fun W8 h => ?_
    rw [r5] at h ⊢
    refine w_neq (ifd_neg (fun h => h rfl) ?_)
    have tt : ∀ t : Int, toldC (chainR [(key, cc)] key) t = if t < a + b + c then (if t < a + b then (if t < a then none else some v) else none) else some w := fun t => by
      rw [chainR_one, ← hcc, told3]
      rfl
    refine a_sub64 (by omega) (by omega) ?_
    refine h.get_spec (key := key) hb3 (by decide) fun W9 h => ?_
    rw [tt, if_pos (by omega), if_pos (by omega), if_neg (by omega)]
    refine a_ext0 (a_ext1 ?_)
    refine a_sub64 (by omega) (by omega) ?_
    refine h.get_spec (key := key) hb3 (by decide) fun W10 h => ?_
    rw [tt, if_pos (by omega), if_neg (by omega)]
    refine a_ext0 (a_ext1 ?_)
    refine h.get_spec (key := key) hb3 (by decide) fun W11 h => ?_
    rw [tt, if_neg (by omega)]
    refine a_ext0 (a_ext1 ?_)
    refine a_sub64 (by omega) (by omega) ?_
    refine h.get_spec (key := key) hb3 (by decide) fun W12 h => ?_
    rw [tt, if_pos (by omega), if_pos (by omega), if_pos (by omega)]
    refine a_ext0 (a_ext1 ?_)
    refine a_not (iff' ?_)
    refine w_neqL (ifd_neg (fun h => h rfl) ?_)
    refine iff' (a_not (iff' ?_))
    refine w_neqL (ifd_neg (fun h => h rfl) ?_)
    refine iff' ?_
    refine h.count_spec hb3 (by decide) fun W13 h => ?_
    have hcnt : countR [(key, cc)] = 3 := by rw [← hcc]; rfl
    rw [hcnt]
    refine w_neq (ifd_neg (fun h => h rfl) ?_)
    refine h.scan_spec hb3 (by decide) fun ps W14 op h => ?_
    have hsc : scanR [(key, cc)] [] [] (a + b) = [] := by
      unfold scanR
      refine List.filterMap_cons_none ?_
      show (if _ then (toldC cc (a + b)).map _ else none) = none
      have := tt (a + b)
      rw [chainR_one, if_pos (by omega), if_neg (by omega)] at this
      rw [this]
      split <;> rfl
    rw [hsc] at h
    refine x_lenS (h.sl (v' := ps)) (w_neq (ifd_neg (fun h => h rfl) ?_))
    refine h.prune_spec hb3 (by decide) fun W15 h => ?_
    have hp : pruneR [(key, cc)] 0 (a + b) = (2, [(key, [(a + b + c, w, false)])], a + b) := by
      unfold pruneR
      rw [if_neg (by omega)]
      have hs : seenN cc (a + b) = 2 := by
        rw [← hcc]
        simp only [seenN, List.length_cons, List.length_nil, seenF, List.getElem?_cons_zero, List.getElem?_cons_succ]
        rw [if_pos (by omega), if_neg (by omega)]
      have hpc : prunedC cc (a + b) = [(a + b + c, w, false)] := by
        unfold prunedC
        rw [hs, ← hcc]
        show (if true = true ∧ a + b ≤ a + b then [(a + b + c, w, false)] else [(a + b, ([] : Txt), true), (a + b + c, w, false)]) = _
        rw [if_pos ⟨rfl, Int.le_refl _⟩]
      have hfm : [(key, cc)].filterMap (prune1 (a + b)) = [(key, [(a + b + c, w, false)])] := by
        refine List.filterMap_cons_some (f := prune1 (a + b)) (b := (key, [(a + b + c, w, false)])) (l := []) ?_
        unfold prune1
        rw [hpc]; rfl
      rw [hfm, hcnt]; rfl
    rw [hp] at h ⊢
    have hb1' : Bd 3 [(key, [(a + b + c, w, false)])] := hbd _ (by simp)
    refine h.prune_spec hb1' (by decide) fun W16 h => ?_
    have hp2 : pruneR [(key, [(a + b + c, w, false)])] (a + b) (a + b + c) = (0, [(key, [(a + b + c, w, false)])], a + b + c) := by
      unfold pruneR
      rw [if_neg (by omega)]
      have hs : seenN [(a + b + c, w, false)] (a + b + c) = 1 := by
        simp only [seenN, List.length_cons, List.length_nil, seenF, List.getElem?_cons_zero]
        rw [if_neg (by omega)]
      have hpc : prunedC [(a + b + c, w, false)] (a + b + c) = [(a + b + c, w, false)] := by
        unfold prunedC
        rw [hs]
        show (if false = true ∧ a + b + c ≤ a + b + c then [] else [(a + b + c, w, false)]) = _
        rw [if_neg (by simp)]
      have hfm : [(key, [(a + b + c, w, false)])].filterMap (prune1 (a + b + c)) = [(key, [(a + b + c, w, false)])] := by
        refine List.filterMap_cons_some (f := prune1 (a + b + c)) (b := (key, [(a + b + c, w, false)])) (l := []) ?_
        unfold prune1
        rw [hpc]; rfl
      rw [hfm]; simp
    rw [hp2] at h ⊢
    refine h.first_spec fun W17 h => ?_
    refine ift (w_eql (ifd_pos rfl (w_eql (ifd_pos rfl ?_))))
    refine h.count_spec hb1' (by decide) fun W18 h => ?_
    refine w_eql (ifd_pos rfl ?_)
    refine h.low_spec ?_
    refine w_eql (ifd_pos rfl ?_)
    refine h.last_spec (key := key) hb1' (by decide) fun W19 h => ?_
    refine w_eql ?_
    have : decide (lastC (chainR [(key, [(a + b + c, w, false)])] key) = a + b + c) = true := by
      rw [chainR_one]; exact decide_eq_true rfl
    rw [this]
    exact k W19 h.low'
  · refine x_nilP (iff' ?_)
    have early : VsI Wz (.pointer (some ⟨bv, 0, none⟩)) [] 0 [] W2 := h
    have stop : ∃ t, [(.int .i64 a : Value), .int .i64 b, .int .i64 c, strV key, strV v, strV w, .pointer (some ⟨bv, 0, none⟩), .bool true] = [.int .i64 a, .int .i64 b, .int .i64 c, strV key, strV v, strV w, .pointer (some ⟨bv, 0, none⟩), .bool t] ∧ (t = false → 1 ≤ a ∧ a ≤ 1073741824 ∧ 1 ≤ b ∧ b ≤ 1073741824 ∧ 1 ≤ c ∧ c ≤ 1073741824) ∧ VsI Wz (.pointer (some ⟨bv, 0, none⟩)) [] 0 [] W2 := ⟨true, rfl, (fun h => by cases h), h⟩
    refine a_lss (ifd (fun _ => stop) fun h1 => ?_)
    refine a_gtr (ifd (fun _ => stop) fun h2 => ?_)
    refine a_lss (ifd (fun _ => stop) fun h3 => ?_)
    refine a_gtr (ifd (fun _ => stop) fun h4 => ?_)
    refine a_lss (ifd (fun _ => stop) fun h5 => ?_)
    refine a_gtr (ifd (fun _ => stop) fun h6 => ?_)
    refine x_len (a_gtr (ifd (fun _ => stop) fun _ => ?_))
    refine x_len (a_gtr (ifd (fun _ => stop) fun _ => ?_))
    refine x_len (a_gtr ?_)
    exact ⟨_, rfl, fun _ => ⟨by omega, by omega, by omega, by omega, by omega, by omega⟩, h⟩
end
end Go.Proofs.Ytffnabbchghokaa
