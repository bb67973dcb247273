/-
  DIFFERENCES, plainly: put on, they lead from one to the other; they rise; two steps. No program in sight.
-/
import Derived.Test.YtdjgchofnkancaaDfC
namespace Go.Ez
open Go Go.Proofs.Ytdjgchofnkancaa
set_option linter.unusedSimpArgs false
set_option linter.unusedVariables false

/-- what changes do to one key -/
def eff (k : Txt) (ds : List Ch) (x : Option Txt) : Option Txt := ds.foldl (fun x d => if k = d.1 then (if d.2.2 then none else some d.2.1) else x) x
theorem putD_srt {m : List (Txt × Txt)} {d : Ch} (h : Srt m) : Srt (putD m d) := by
  unfold putD
  split
  · exact srt_del h
  · exact srt_put h
theorem foldD_srt : ∀ (ds : List Ch) {m : List (Txt × Txt)}, Srt m → Srt (foldD m ds)
  | [], m, h => h
  | d :: ds, m, h => foldD_srt ds (putD_srt h)
theorem foldD_get (k : Txt) : ∀ (ds : List Ch) {m : List (Txt × Txt)}, Srt m → getK k (foldD m ds) = eff k ds (getK k m)
  | [], m, h => rfl
  | d :: ds, m, h => by
    show getK k (foldD (putD m d) ds) = eff k ds (if k = d.1 then (if d.2.2 then none else some d.2.1) else getK k m)
    rw [foldD_get k ds (putD_srt h)]
    congr 1
    unfold putD
    split
    · rw [get_del h]
    · rw [get_put h]
theorem eff_b (k : Txt) (a b : List (Txt × Txt)) : ∀ ks : List Txt, eff k (ks.filterMap (ch1 a b)) (getK k b) = getK k b
  | [] => rfl
  | k' :: ks => by
    cases hc : ch1 a b k' with
    | none => rw [List.filterMap_cons_none hc]; exact eff_b k a b ks
    | some d =>
      rw [List.filterMap_cons_some hc]
      show eff k (ks.filterMap (ch1 a b)) (if k = d.1 then (if d.2.2 then none else some d.2.1) else getK k b) = _
      have e : (if k = d.1 then (if d.2.2 then none else some d.2.1) else getK k b) = getK k b := by
        unfold ch1 at hc
        cases hg : chg (getK k' a) (getK k' b) with
        | none => rw [hg] at hc; cases hc
        | some c =>
          rw [hg] at hc
          cases hc
          have := chg_some hg
          subst this
          split
          · rename_i h
            simp only at h
            subst h
            cases getK k b <;> simp
          · rfl
      rw [e]
      exact eff_b k a b ks
theorem eff_a (k : Txt) (a b : List (Txt × Txt)) : ∀ ks : List Txt, eff k (ks.filterMap (ch1 a b)) (getK k a) = if k ∈ ks then getK k b else getK k a
  | [] => by simp [eff]
  | k' :: ks => by
    by_cases hk : k = k'
    · subst hk
      rw [if_pos List.mem_cons_self]
      cases hc : ch1 a b k with
      | none =>
        have : chg (getK k a) (getK k b) = none := by
          unfold ch1 at hc
          cases hg : chg (getK k a) (getK k b) with
          | none => rfl
          | some c => rw [hg] at hc; cases hc
        rw [List.filterMap_cons_none hc, chg_none.1 this]
        exact eff_b k a b ks
      | some d =>
        rw [List.filterMap_cons_some hc]
        show eff k (ks.filterMap (ch1 a b)) (if k = d.1 then (if d.2.2 then none else some d.2.1) else getK k a) = _
        have e : (if k = d.1 then (if d.2.2 then none else some d.2.1) else getK k a) = getK k b := by
          unfold ch1 at hc
          cases hg : chg (getK k a) (getK k b) with
          | none => rw [hg] at hc; cases hc
          | some c =>
            rw [hg] at hc
            cases hc
            have := chg_some hg
            subst this
            rw [if_pos rfl]
            cases getK k b <;> simp
        rw [e]
        exact eff_b k a b ks
    · have e : (if k ∈ k' :: ks then getK k b else getK k a) = if k ∈ ks then getK k b else getK k a := by simp [hk]
      have ih := eff_a k a b ks
      rw [e, ← ih]
      cases hc : ch1 a b k' with
      | none => rw [List.filterMap_cons_none hc]
      | some d =>
        rw [List.filterMap_cons_some hc]
        show eff k (ks.filterMap (ch1 a b)) (if k = d.1 then (if d.2.2 then none else some d.2.1) else getK k a) = _
        rw [if_neg]
        unfold ch1 at hc
        cases hg : chg (getK k' a) (getK k' b) with
        | none => rw [hg] at hc; cases hc
        | some c => rw [hg] at hc; cases hc; exact hk
theorem mem_keys {β : Type} {k : Txt} {m : List (Txt × β)} : k ∈ m.map Prod.fst ↔ (getK k m).isSome = true := by
  induction m with
  | nil => simp [getK]
  | cons p m ih =>
    simp only [List.map_cons, List.mem_cons, getK]
    split
    · rename_i h; simp [h]
    · rename_i h
      rw [ih]
      simp [Ne.symm h]
/-- there -/
theorem fold_dff {a b : List (Txt × Txt)} (ha : Srt a) (hb : Srt b) : foldD a (dff a b) = b := by
  refine srt_ext (foldD_srt _ ha) hb fun k => ?_
  rw [foldD_get k _ ha, dff_keys, eff_a]
  split
  · rfl
  · rename_i h
    rw [mem_keys, mrg_get ha hb] at h
    cases h1 : getK k a <;> cases h2 : getK k b <;> rw [h1, h2] at h <;> simp at h ⊢
theorem foldD_append (m : List (Txt × Txt)) (x y : List Ch) : foldD m (x ++ y) = foldD (foldD m x) y := by simp [foldD, List.foldl_append]
theorem dff_nil {a b : List (Txt × Txt)} (ha : Srt a) (hb : Srt b) (h : dff a b = []) : a = b := by
  have := fold_dff ha hb
  rw [h] at this
  exact this
theorem dff_self (a : List (Txt × Txt)) : dff a a = [] := by
  unfold dff
  rw [List.filterMap_eq_nil_iff]
  intro p _
  simp [ch1, chg]
theorem ch1_key {a b : List (Txt × Txt)} {k : Txt} {d : Ch} (h : ch1 a b k = some d) : d = (k, (getK k b).getD default, !(getK k b).isSome) := by
  unfold ch1 at h
  cases hg : chg (getK k a) (getK k b) with
  | none => rw [hg] at h; cases h
  | some c => rw [hg] at h; cases h; rw [chg_some hg]
/-- they rise -/
theorem dff_rise {a b : List (Txt × Txt)} (ha : Srt a) (hb : Srt b) : (dff a b).Pairwise fun d e => OKey.lt d.1 e.1 = true := by
  unfold dff
  rw [List.pairwise_filterMap]
  refine (mrg_srt ha hb).imp ?_
  intro p q hpq d hd e he
  rw [ch1_key hd, ch1_key he]
  exact hpq
/-- what is gone has no value -/
theorem dff_gone {a b : List (Txt × Txt)} {d : Ch} (h : d ∈ dff a b) (hg : d.2.2 = true) : d.2.1 = [] := by
  obtain ⟨p, _, hd⟩ := List.mem_filterMap.1 h
  rw [ch1_key hd] at hg ⊢
  simp only [Bool.not_eq_true', Option.isSome_eq_false_iff, Option.isNone_iff_eq_none] at hg
  simp only
  rw [hg]; rfl
theorem rise_at {ds : List Ch} (h : ds.Pairwise fun d e => OKey.lt d.1 e.1 = true) {i j : Nat} {d e : Ch} (hd : ds[i]? = some d) (he : ds[j]? = some e) (hij : i < j) : OKey.lt d.1 e.1 = true := by
  obtain ⟨hi, rfl⟩ := List.getElem?_eq_some_iff.1 hd
  obtain ⟨hj, rfl⟩ := List.getElem?_eq_some_iff.1 he
  exact List.pairwise_iff_getElem.1 h i j hi hj hij
/-- those behind the j-th -/
theorem aft_drop {ds : List Ch} (h : ds.Pairwise fun d e => OKey.lt d.1 e.1 = true) {j : Nat} {d : Ch} (hd : ds[j]? = some d) : aftD d.1 ds = ds.drop (j + 1) := by
  unfold aftD
  conv => lhs; rw [← List.take_append_drop (j + 1) ds]
  rw [List.filterMap_append]
  have e1 : (ds.take (j + 1)).filterMap (fun e => if OKey.lt d.1 e.1 then some e else none) = [] := by
    rw [List.filterMap_eq_nil_iff]
    intro e he
    obtain ⟨i, hi⟩ := List.mem_iff_getElem?.1 he
    have hil := (List.getElem?_eq_some_iff.1 hi).1
    rw [List.length_take] at hil
    rw [List.getElem?_take_of_lt (by omega)] at hi
    refine if_neg fun hlt => ?_
    by_cases hij : i = j
    · subst hij
      rw [hd] at hi; cases hi
      rw [OKey.irr] at hlt; cases hlt
    · have := rise_at h hi hd (by omega)
      have h2 := OKey.tr this hlt
      rw [OKey.irr] at h2; cases h2
  have e2 : (ds.drop (j + 1)).filterMap (fun e => if OKey.lt d.1 e.1 then some e else none) = ds.drop (j + 1) := by
    have fc : ∀ l : List Ch, (∀ e ∈ l, OKey.lt d.1 e.1 = true) → l.filterMap (fun e => if OKey.lt d.1 e.1 then some e else none) = l := by
      intro l
      induction l with
      | nil => intro _; rfl
      | cons e l ih =>
        intro h
        have h1 := h e List.mem_cons_self
        have h2 := ih fun x hx => h x (List.mem_cons_of_mem _ hx)
        simp only [List.filterMap_cons, h1, if_true, h2]
    refine fc _ fun e he => ?_
    obtain ⟨i, hi⟩ := List.mem_iff_getElem?.1 he
    rw [List.getElem?_drop] at hi
    exact rise_at h hd hi (by omega)
  rw [e1, e2, List.nil_append]

/-! ### two steps -/
theorem getK_unit {k : Txt} {ks : List Txt} : (getK k (ks.map fun x => (x, ()))).isSome = true ↔ k ∈ ks := by
  rw [← mem_keys, List.map_map]
  simp [Function.comp_def]
theorem srt_unit {ks : List Txt} (h : ks.Pairwise fun x y => OKey.lt x y = true) : Srt (ks.map fun x => (x, ())) := by
  unfold Srt
  rw [List.pairwise_map]
  exact h
theorem list_ext {x y : List Txt} (hx : x.Pairwise fun x y => OKey.lt x y = true) (hy : y.Pairwise fun x y => OKey.lt x y = true) (h : ∀ k, k ∈ x ↔ k ∈ y) : x = y := by
  have h1 := keys_ext (srt_unit hx) (srt_unit hy) fun k => by
    have := h k
    rw [← getK_unit, ← getK_unit] at this
    cases h1 : (getK k (x.map fun x => (x, ()))).isSome <;> cases h2 : (getK k (y.map fun x => (x, ()))).isSome <;> rw [h1, h2] at this <;> simp at this ⊢
  simpa [List.map_map, Function.comp_def] using h1
theorem srt_keys {β : Type} {m : List (Txt × β)} (h : Srt m) : (m.map Prod.fst).Pairwise fun x y => OKey.lt x y = true := by
  rw [List.pairwise_map]; exact h
/-- how many turned, among any keys that hold them all -/
theorem dff_among {a b : List (Txt × Txt)} (ha : Srt a) (hb : Srt b) {ks : List Txt} (hk : ks.Pairwise fun x y => OKey.lt x y = true) (hm : ∀ k, (getK k a).isSome = true ∨ (getK k b).isSome = true → k ∈ ks) : (dff a b).length = (ks.filter fun k => (ch1 a b k).isSome).length := by
  have e : ((mrg a b).map Prod.fst).filter (fun k => (ch1 a b k).isSome) = ks.filter fun k => (ch1 a b k).isSome := by
    refine list_ext ((srt_keys (mrg_srt ha hb)).filter _) (hk.filter _) fun k => ?_
    rw [List.mem_filter, List.mem_filter, mem_keys, mrg_get ha hb]
    refine and_congr_left fun hc => ⟨fun h => hm k ?_, fun _ => ?_⟩
    · cases h1 : getK k a <;> cases h2 : getK k b <;> rw [h1, h2] at h <;> simp at h ⊢
    · cases h1 : getK k a <;> cases h2 : getK k b <;> simp
      unfold ch1 at hc
      rw [h1, h2] at hc
      simp [chg] at hc
  rw [dff_keys, ← e]
  generalize (mrg a b).map Prod.fst = l
  induction l with
  | nil => rfl
  | cons k l ih =>
    cases hc : ch1 a b k with
    | none => rw [List.filterMap_cons_none hc, List.filter_cons_of_neg (by rw [hc]; simp), ih]
    | some d => rw [List.filterMap_cons_some hc, List.filter_cons_of_pos (by rw [hc]; rfl), List.length_cons, List.length_cons, ih]
theorem filter_two {α : Type} {p q r : α → Bool} (h : ∀ a, p a = true → q a = true ∨ r a = true) : ∀ l : List α, (l.filter p).length ≤ (l.filter q).length + (l.filter r).length
  | [] => Nat.zero_le _
  | a :: l => by
    have ih := filter_two h l
    have ha := h a
    cases h1 : p a <;> cases h2 : q a <;> cases h3 : r a <;> simp [h1, h2, h3] at ha ⊢ <;> omega
theorem dff_two {a b c : List (Txt × Txt)} (ha : Srt a) (hb : Srt b) (hc : Srt c) : (dff a c).length ≤ (dff a b).length + (dff b c).length := by
  have hk := srt_keys (mrg_srt (mrg_srt ha hb) hc)
  have hin : ∀ k, (getK k a).isSome = true ∨ (getK k b).isSome = true ∨ (getK k c).isSome = true → k ∈ (mrg (mrg a b) c).map Prod.fst := by
    intro k h
    rw [mem_keys, mrg_get (mrg_srt ha hb) hc, mrg_get ha hb]
    cases h1 : getK k a <;> cases h2 : getK k b <;> cases h3 : getK k c <;> rw [h1, h2, h3] at h <;> simp at h ⊢
  rw [dff_among ha hc hk fun k h => hin k (h.elim .inl fun h => .inr (.inr h)), dff_among ha hb hk fun k h => hin k (h.elim .inl fun h => .inr (.inl h)), dff_among hb hc hk fun k h => hin k (.inr h)]
  refine filter_two (fun k h => ?_) _
  have key : ∀ (x y : List (Txt × Txt)), (ch1 x y k).isSome = true ↔ getK k x ≠ getK k y := by
    intro x y
    unfold ch1
    rw [Option.isSome_map]
    cases hg : chg (getK k x) (getK k y) with
    | none => simp [chg_none.1 hg]
    | some d => simp only [Option.isSome_some, true_iff]; intro e; rw [chg_none.2 e] at hg; cases hg
  rw [key] at h
  rw [key, key]
  by_cases h1 : getK k a = getK k b
  · right; rw [← h1]; exact h
  · left; exact h1
end Go.Ez
