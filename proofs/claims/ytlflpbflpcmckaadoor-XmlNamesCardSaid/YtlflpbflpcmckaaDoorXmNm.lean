/-
  XmlNames: the document's Unique; what the document says, plainly; the walk.
-/
import Derived.Test.YtlflpbflpcmckaaDoorXmC
import Derived.Test.YtlflpbflpcmckaaDoorEzMap
import Derived.Test.YtlflpbflpcmckaaDoorShD
import Derived.Test.YtlflpbflpcmckaaDoorXmSc
namespace Go.Proofs.YtlflpbflpcmckaaDoor
open Go Go.Ez Go.RowKit
set_option linter.unusedSimpArgs false
set_option linter.unusedVariables false

/-- texts, each once, as a map to nothing -/
def uniqM (ls : List Txt) : List (Txt × Unit) := ls.foldl (fun m s => putK s () m) []
def uniq (ls : List Txt) : List Txt := (uniqM ls).map Prod.fst
theorem uniqM_srt (ls : List Txt) : Srt (uniqM ls) := by
  have : ∀ (ls : List Txt) (m : List (Txt × Unit)), Srt m → Srt (ls.foldl (fun m s => putK s () m) m) := by
    intro ls
    induction ls with
    | nil => intro m hm; exact hm
    | cons s ls ih => intro m hm; exact ih _ (srt_put hm)
  exact this ls [] List.Pairwise.nil
theorem uniqM_snoc (ls : List Txt) (s : Txt) : uniqM (ls ++ [s]) = putK s () (uniqM ls) := by simp [uniqM, List.foldl_append]
theorem putK_len {κ β : Type} [OKey κ] [DecidableEq κ] (k : κ) (v : β) (m : List (κ × β)) : (putK k v m).length ≤ m.length + 1 := by
  have := posK_le k m
  unfold putK
  split <;> simp [List.length_take, List.length_drop] <;> omega
theorem uniqM_len (ls : List Txt) : (uniqM ls).length ≤ ls.length := by
  have : ∀ (ls : List Txt) (m : List (Txt × Unit)), (ls.foldl (fun m s => putK s () m) m).length ≤ m.length + ls.length := by
    intro ls
    induction ls with
    | nil => intro m; simp
    | cons s ls ih => intro m; have h1 := ih (putK s () m); have h2 := putK_len s () m; simp only [List.foldl_cons, List.length_cons]; omega
  have := this ls []
  rw [List.length_nil, Nat.zero_add] at this
  exact this
theorem put_fst (s : Txt) (m : List (Txt × Unit)) : (putK s () m).map Prod.fst = if hasK s m then m.map Prod.fst else (m.map Prod.fst).take (posK s m) ++ s :: (m.map Prod.fst).drop (posK s m) := by
  unfold putK
  split
  · rename_i h
    obtain ⟨u, hu⟩ := hasK_spec.1 h
    rw [List.map_set]
    refine List.ext_getElem? fun i => ?_
    by_cases hi : posK s m = i
    · subst hi
      rw [List.getElem?_set_self (by rw [List.length_map]; exact (List.getElem?_eq_some_iff.1 hu).1), List.getElem?_map, hu]; rfl
    · rw [List.getElem?_set_ne hi]
  · simp [List.map_take, List.map_drop]

/-- hblref.Unique -/
theorem unique_spec {ls : List Txt} {v : Value} {n : Nat} {w : World} {R : Value → World → Prop} (hv : Sl w 1 v n (ls.map Enc.enc)) (hl : ls.length ≤ 1000000)
    (k : ∀ v' W', W'.ownsRow w.heap.size 9 1 v' (uniq ls).length ((uniq ls).map Enc.enc) → Below w.heap.size w W' → R v' W') : CallF Tryd.prog 16 #[v] w R := by
  refine sh16_calls ?_
  unfold sh16
  have hn : n = ls.length := by obtain ⟨_, _, _, _, h, _⟩ := hv; simpa using h.symm
  subst hn
  refine lpx (α := Nat × Value) (fun x => [x.2, nV .i64 x.1]) (fun x W => x.1 ≤ ls.length ∧ St w G0 [Ky x.2 (Ow 9 1 (uniq (ls.take x.1)).length ((uniq (ls.take x.1)).map Enc.enc))] W) (fun x => ls.length - x.1) (0, .slice none 0 0) (fun _ => rfl) rfl ⟨Nat.zero_le _, (St.start w).nilOw⟩ ?_
  rintro next ⟨i, u⟩ W hnext ⟨hi, h⟩
  simp only at hi h
  refine app2 ?_
  refine x_lenS hv ?_
  refine a_lss (ifd (fun hc => ?_) fun hc => ?_)
  · have hil : i < ls.length := by omega
    obtain ⟨s, hs⟩ : ∃ s, ls[i]? = some s := ⟨_, List.getElem?_eq_getElem hil⟩
    have hsv : (ls.map (Enc.enc (κ := Txt)))[i]? = some (Enc.enc s) := by rw [List.getElem?_map, hs]; rfl
    have hsnoc : uniqM (ls.take (i + 1)) = putK s () (uniqM (ls.take i)) := by rw [List.take_add_one, hs]; exact uniqM_snoc _ s
    have hsrt := uniqM_srt (ls.take i)
    have hul := uniqM_len (ls.take i)
    have hut : uniq (ls.take (i + 1)) = (putK s () (uniqM (ls.take i))).map Prod.fst := by unfold uniq; rw [hsnoc]
    rw [put_fst] at hut
    rw [List.length_take] at hul
    have hudef : uniq (ls.take i) = (uniqM (ls.take i)).map Prod.fst := rfl
    rw [hudef] at h
    generalize uniqM (ls.take i) = m at *
    have hple := posK_le s m
    refine jni (fun vs W => ∃ u', vs = [v, u', nV .i64 i] ∧ St w G0 [Ky u' (Ow 9 1 (uniq (ls.take (i + 1))).length ((uniq (ls.take (i + 1))).map Enc.enc))] W) ?_ ?_
    · rintro vs W' _ ⟨u', rfl, h⟩
      refine app3 ?_
      refine a_add64 (by omega) (by omega) ⟨rfl, ?_⟩
      rw [show ((i : Int) + 1) = ((i + 1 : Nat) : Int) by push_cast; rfl]
      exact hnext (i + 1, u') W' (by omega) ⟨by omega, h⟩
    refine x_lenS (h.osl (v := u)) ?_
    rw [List.length_map] at h ⊢
    -- the scan
    refine jni (fun vs W => vs = [v, u, nV .i64 i, nV .i64 (posK s m)] ∧ St w G0 [Ky u (Ow 9 1 m.length ((m.map Prod.fst).map Enc.enc))] W) ?_ ?_
    · rintro vs W _ ⟨rfl, h⟩
      refine app4 ?_
      refine jni (fun vs W => vs = [v, u, nV .i64 i, nV .i64 (posK s m)] ∧ hasK s m = false ∧ St w G0 [Ky u (Ow 9 1 m.length ((m.map Prod.fst).map Enc.enc))] W) ?_ ?_
      · rintro vs W _ ⟨rfl, hh, h⟩
        refine app4 ?_
        refine ⟨fun W' => Sl W' 1 v ls.length (ls.map Enc.enc), h.drew.sl0 hv, ?_⟩
        replace h := h.drew
        refine x_cutOw (v := u) h hple ?_
        refine x_sat (w1 := W.drew) (h.sl0 hv) (fun w' hw => hw) hsv ?_
        refine x_cutRd (h.osl (v := u)) hple fun t hts => ?_
        refine h.litB (vs := [Enc.enc s]) (fun t1 W1 o1 m1 h1 => ?_) (by decide)
        refine St.app (v := t1) h1 (hts.below m1) (fun c hc => by obtain ⟨x, _, rfl⟩ := List.mem_map.1 (List.mem_of_mem_drop hc); exact Enc.one x) (by unfold maxLen; omega) (by omega) fun t2 W2 o2 h2 _ => ?_
        replace h2 := (St.find (k := u) (X := Ow 9 1 m.length ((m.map Prod.fst).map Enc.enc)) h2).cutOw (v := u) hple
        refine St.app (v := cutV u (posK s m)) h2 (h2.osl (v := t2)) (fun c hc => ?_) (by unfold maxLen; omega) (by omega) fun t3 W3 o3 h3 _ => ?_
        · rcases List.mem_append.1 hc with hc | hc
          · rw [List.mem_singleton] at hc; subst hc; exact Enc.one s
          · obtain ⟨x, _, rfl⟩ := List.mem_map.1 (List.mem_of_mem_drop hc); exact Enc.one x
        · rw [hh, if_neg (by simp)] at hut
          refine ⟨t3, rfl, ?_⟩
          rw [hut]
          have e1 : posK s m + (1 + (m.length - posK s m)) = ((m.map Prod.fst).take (posK s m) ++ s :: (m.map Prod.fst).drop (posK s m)).length := by
            simp only [List.length_append, List.length_take, List.length_cons, List.length_drop, List.length_map]; omega
          have e2 : ((m.map Prod.fst).map (Enc.enc (κ := Txt))).take (posK s m * 1) ++ ([Enc.enc s] ++ ((m.map Prod.fst).map Enc.enc).drop (posK s m * 1)) = ((m.map Prod.fst).take (posK s m) ++ s :: (m.map Prod.fst).drop (posK s m)).map Enc.enc := by
            simp only [Nat.mul_one, List.map_append, List.map_cons, List.map_take, List.map_drop, List.singleton_append]
          rw [e1, e2] at h3
          exact h3.to
      · refine ⟨fun W' => W' = W.drew, rfl, ?_⟩
        have h' := h.drew
        refine x_lenSs (h.osl (v := u)) ?_
        refine a_lss (ifd (fun hc => ?_) fun hc => ?_)
        · obtain ⟨p, hp⟩ : ∃ p, m[posK s m]? = some p := ⟨_, List.getElem?_eq_getElem (by omega)⟩
          refine x_sat (h'.osl (v := u)) (fun w' hw => by subst hw; exact h'.osl (v := u)) (by rw [List.getElem?_map, List.getElem?_map, hp]; rfl) ?_
          refine x_sat (w1 := W.drew) (h'.sl0 hv) (fun w' hw => by subst hw; exact h'.sl0 hv) hsv ?_
          have hhas : hasK s m = decide (p.1 = s) := by unfold hasK; rw [hp]
          refine s_eqlL (ifd (fun hc => ?_) fun hc => ?_)
          · have hps : p.1 = s := hc
            rw [hhas, decide_eq_true hps, if_pos rfl] at hut
            refine ⟨u, rfl, ?_⟩
            rw [hut, List.length_map]
            exact h'
          · have hps : p.1 ≠ s := hc
            exact ⟨rfl, by rw [hhas, decide_eq_false hps], h'⟩
        · have hhas : hasK s m = false := by unfold hasK; rw [List.getElem?_eq_none (by omega)]
          exact ⟨rfl, hhas, h'⟩
    · refine lpx (α := Nat) (fun j => [nV .i64 j]) (fun j W => posK s m ≤ j ∧ j ≤ m.length ∧ St w G0 [Ky u (Ow 9 1 m.length ((m.map Prod.fst).map Enc.enc))] W) (fun j => j) m.length (fun _ => rfl) rfl ⟨hple, Nat.le_refl _, h⟩ ?_
      rintro nxt j W hnxt ⟨hj1, hj2, h⟩
      refine app1 ?_
      refine ⟨fun W' => W' = W.drew, rfl, ?_⟩
      have h' := h.drew
      refine a_gtr (ifd (fun hc => ?_) fun hc => ?_)
      · have hj0 : 0 < j := by omega
        refine a_sub64 (by omega) (by omega) ?_
        rw [show ((j : Int) - 1) = ((j - 1 : Nat) : Int) by omega]
        obtain ⟨p, hp⟩ : ∃ p, m[j - 1]? = some p := ⟨_, List.getElem?_eq_getElem (by omega)⟩
        refine x_sat (h'.osl (v := u)) (fun w' hw => by subst hw; exact h'.osl (v := u)) (by rw [List.getElem?_map, List.getElem?_map, hp]; rfl) ?_
        refine x_sat (w1 := W.drew) (h'.sl0 hv) (fun w' hw => by subst hw; exact h'.sl0 hv) hsv ?_
        have hiff := posK_iff (k := s) hsrt hp
        refine x_geqL (ifnb (fun hb => ?_) fun hb => ?_)
        · refine a_sub64 (by omega) (by omega) ⟨rfl, rfl, rfl, ?_⟩
          rw [show ((j : Int) - 1) = ((j - 1 : Nat) : Int) by omega]
          refine hnxt (j - 1) _ (by omega) ⟨?_, by omega, h'⟩
          rcases Nat.lt_or_ge (j - 1) (posK s m) with h1 | h1
          · have := hiff.2 h1
            have hb' : OKey.lt p.1 s = false := hb
            rw [hb'] at this; cases this
          · exact h1
        · have := hiff.1 hb
          obtain rfl : j = posK s m := by omega
          exact ⟨rfl, h'⟩
      · obtain rfl : j = posK s m := by omega
        exact ⟨rfl, h'⟩
  · have hil : i = ls.length := by omega
    subst hil
    rw [List.take_length] at h
    exact k u W (h.owG (v := u)) h.low
end Go.Proofs.YtlflpbflpcmckaaDoor
namespace Go.Proofs.YtlflpbflpcmckaaDoor
open Go Go.Ez Go.RowKit Go.Lib
set_option linter.unusedSimpArgs false
set_option linter.unusedVariables false
def keyP (p : XPr) : Txt × Txt := (p.pre, p.name)
theorem dupB_mem {l : List XPr} {a : (Txt × Txt) × Txt} : dupB l a = true ↔ a.1 ∈ l.map keyP := by
  unfold dupB
  rw [List.any_eq_true, List.mem_map]
  constructor
  · rintro ⟨p, hp, h⟩
    obtain ⟨h1, h2⟩ := of_decide_eq_true h
    exact ⟨p, hp, Prod.ext h1 h2⟩
  · rintro ⟨p, hp, h⟩
    exact ⟨p, hp, decide_eq_true ⟨congrArg Prod.fst h, congrArg Prod.snd h⟩⟩
theorem noDup_iff : ∀ {az : List ((Txt × Txt) × Txt)} {l : List XPr}, (l.map keyP).Nodup → (noDup l az = true ↔ (l.map keyP ++ az.map Prod.fst).Nodup)
  | [], l, h => by
    rw [List.map_nil, List.append_nil]
    exact ⟨fun _ => h, fun _ => rfl⟩
  | a :: az, l, h => by
    unfold noDup
    rw [Bool.and_eq_true, Bool.not_eq_true', List.map_cons]
    by_cases hd : dupB l a = true
    · have hm := dupB_mem.1 hd
      constructor
      · rintro ⟨h1, _⟩
        rw [hd] at h1; cases h1
      · intro hn
        have := (List.nodup_append.1 hn).2.2 _ hm _ (List.mem_cons_self ..)
        exact absurd rfl this
    · have hf : dupB l a = false := by simpa using hd
      have hm : a.1 ∉ l.map keyP := fun hm => hd (dupB_mem.2 hm)
      have e1 : (l ++ [prOf a]).map keyP = l.map keyP ++ [a.1] := by rw [List.map_append]; rfl
      have h2 : ((l ++ [prOf a]).map keyP).Nodup := by
        rw [e1]
        refine List.nodup_append.2 ⟨h, by simp, ?_⟩
        intro x hx y hy
        rw [List.mem_singleton.1 hy]
        exact fun e => hm (e ▸ hx)
      have ih := noDup_iff (az := az) h2
      rw [e1, List.append_assoc, List.singleton_append] at ih
      exact ⟨fun h3 => ih.1 h3.2, fun h3 => ⟨hf, ih.2 h3⟩⟩
/-- a name and a value, beside each other -/
def nmAs : List Txt → List Txt → List ((Txt × Txt) × Txt)
  | n :: ns, v :: vs => (([], n), v) :: nmAs ns vs
  | _, _ => []
theorem nmAs_len : ∀ {ns vs : List Txt}, vs.length = ns.length → (nmAs ns vs).length = ns.length
  | [], [], _ => rfl
  | n :: ns, v :: vs, h => by
    have := nmAs_len (ns := ns) (vs := vs) (by simpa using h)
    show (nmAs ns vs).length + 1 = _
    rw [this]; rfl
  | [], v :: vs, h => by cases h
  | n :: ns, [], h => by cases h
theorem nmAs_fst : ∀ {ns vs : List Txt}, vs.length = ns.length → (nmAs ns vs).map Prod.fst = ns.map fun n => ([], n)
  | [], [], _ => rfl
  | n :: ns, v :: vs, h => by
    have := nmAs_fst (ns := ns) (vs := vs) (by simpa using h)
    show (([], n) : Txt × Txt) :: (nmAs ns vs).map Prod.fst = _
    rw [this]; rfl
  | [], v :: vs, h => by cases h
  | n :: ns, [], h => by cases h
theorem nmAs_get : ∀ {ns vs : List Txt} {i : Nat} {n v : Txt}, ns[i]? = some n → vs[i]? = some v → (nmAs ns vs)[i]? = some (([], n), v)
  | a :: ns, b :: vs, 0, n, v, h1, h2 => by cases h1; cases h2; rfl
  | a :: ns, b :: vs, i + 1, n, v, h1, h2 => by
    show (nmAs ns vs)[i]? = _
    exact nmAs_get (by simpa using h1) (by simpa using h2)
  | [], _, i, n, v, h1, h2 => by simp at h1
  | a :: ns, [], i, n, v, h1, h2 => by simp at h2
/-- small letters alone, one at least, 100 at most -/
def lettersB (s : Txt) : Bool := s.all (fun c => decide (97 ≤ c.toNat ∧ c.toNat ≤ 122)) && decide (1 ≤ s.length ∧ s.length ≤ 100)
theorem letters_nm {s : Txt} (h : lettersB s = true) : NmOk s := by
  unfold lettersB at h
  rw [Bool.and_eq_true, List.all_eq_true] at h
  obtain ⟨h1, h2⟩ := h
  have h3 := of_decide_eq_true h2
  have hb : ∀ c ∈ s, XRd.begs c = true := fun c hc => by
    have := of_decide_eq_true (h1 c hc)
    unfold XRd.begs
    rw [decide_eq_true this]; rfl
  refine ⟨?_, fun c hc => by unfold XRd.goes; rw [hb c hc]; rfl⟩
  cases s with
  | nil => simp at h3
  | cons c r => exact ⟨c, r, rfl, hb c (by simp)⟩
abbrev nE : Txt × Txt := ([], [101])
def nmDoc (az : List ((Txt × Txt) × Txt)) : Txt := 60 :: (nmT nE ++ (attsT az ++ 47 :: 62 :: []))
def nmAts (az : List ((Txt × Txt) × Txt)) : List XAt := az.map fun a => ⟨[], a.1.2, a.2⟩
theorem tells_no {a : (Txt × Txt) × Txt} (hp : a.1.1 = []) (hn : a.1.2 ≠ [120, 109, 108, 110, 115]) : XRd.tells (prOf a) = (a.1.2, false) := by
  unfold XRd.tells prOf
  rw [if_neg (fun h => hn h.2)]
  refine Prod.ext rfl ?_
  show decide (a.1.1 = XRd.told) = false
  rw [hp]
  decide
theorem nm_spaces : ∀ {az : List ((Txt × Txt) × Txt)} {m : List (Txt × Txt)}, (∀ a ∈ az, a.1.1 = [] ∧ a.1.2 ≠ [120, 109, 108, 110, 115]) → XRd.spacesOf (az.map prOf) m = m
  | [], m, _ => rfl
  | a :: az, m, h => by
    have h1 := h a (by simp)
    rw [List.map_cons]
    unfold XRd.spacesOf
    rw [tells_no h1.1 h1.2]
    exact nm_spaces fun b hb => h b (by simp [hb])
theorem nm_atts {f : XFr} {op : List XFr} : ∀ {az : List ((Txt × Txt) × Txt)}, (∀ a ∈ az, a.1.1 = [] ∧ a.1.2 ≠ [120, 109, 108, 110, 115]) → attsP f op (az.map prOf) = some (nmAts az)
  | [], _ => rfl
  | a :: az, h => by
    have h1 := h a (by simp)
    rw [List.map_cons]
    unfold attsP
    rw [tells_no h1.1 h1.2]
    have hp : (prOf a).pre = [] := h1.1
    rw [hp]
    simp only [Bool.false_eq_true, if_false, ne_eq, not_true_eq_false]
    rw [nm_atts fun b hb => h b (by simp [hb])]
    rfl
theorem nm_front {az : List ((Txt × Txt) × Txt)} : XRd.front decX ⟨nmDoc az, 0, 0, [], [], []⟩ = Mr [] (nmDoc az) [] [] [] := front_plain (d := 101) (by decide)
theorem nm_ok {az : List ((Txt × Txt) × Txt)} (hl : (nmDoc az).length ≤ 20000) (ha : ∀ a ∈ az, AOk a) (hp : ∀ a ∈ az, a.1.1 = [] ∧ a.1.2 ≠ [120, 109, 108, 110, 115]) (hd : noDup [] az = true) : tokX (nmDoc az) = ([⟨1, [], [101], [], nmAts az⟩, ⟨2, [], [101], [], []⟩], 0) := by
  have he := Mr.element1 (p := []) (t := []) (out := []) (op := []) (run := []) (n := nE) (az := az) (sp := []) (ats := nmAts az) (nOk (by decide)) ha hd (by decide) (by
    show XRd.spaceV ⟨[], [101], XRd.spacesOf (az.map prOf) []⟩ [] [] = _
    rw [nm_spaces hp]; rfl) (nm_atts hp)
  have hc := (congrArg (XRd.contents decX signS ((nmDoc az).length + 2)) he).trans (contents_done rfl)
  exact tok_ok (p1 := []) (c := 101) hl nm_front (by decide) hc
theorem nm_bad {az : List ((Txt × Txt) × Txt)} (hl : (nmDoc az).length ≤ 20000) (ha : ∀ a ∈ az, AOk a) (hd : noDup [] az = false) : tokX (nmDoc az) = ([], 4) := by
  have hel := attsT_len az
  have hatt : (XRd.attrs decX signS (Mr ([] ++ [60] ++ nmT nE) (attsT az ++ 47 :: 62 :: []) [] [] [])).2.e = 4 := by
    unfold XRd.attrs
    exact attrs_dup (p := [] ++ [60] ++ nmT nE) (t := 62 :: []) (e := 47) ha hd (by show az.length < ([] ++ [60] ++ nmT nE ++ (attsT az ++ 47 :: 62 :: [])).length + 3; simp; omega)
  have hfull : (Mr ([] ++ [60]) (nmT nE ++ (attsT az ++ 47 :: 62 :: [])) [] [] []).full = (nE, Mr ([] ++ [60] ++ nmT nE) (attsT az ++ 47 :: 62 :: []) [] [] []) :=
    Mr.full (nOk (by decide)) (stopsA (.inl rfl) (by decide) (by decide) (by decide)) (stopsA (.inl rfl) (by decide) (by decide) (by decide))
  have he : (XRd.element decX signS (Mr [] (nmDoc az) [] [] [])).e = 4 := by
    unfold XRd.element nmDoc
    dsimp only
    rw [Mr.on1, if_neg (by show ¬ 64 ≤ 0; decide), hfull]
    dsimp only
    rw [if_pos (by rw [hatt]; decide)]
    exact hatt
  have hc : XRd.contents decX signS ((nmDoc az).length + 2) (XRd.element decX signS (Mr [] (nmDoc az) [] [] [])) = XRd.element decX signS (Mr [] (nmDoc az) [] [] []) := by
    unfold XRd.contents
    rw [if_neg (fun h => by have := h.1; rw [he] at this; cases this)]
  have := tok_err (p1 := []) (c := 101) hl nm_front (by decide) hc (by rw [he]; decide)
  rw [he] at this
  exact this
end Go.Proofs.YtlflpbflpcmckaaDoor
namespace Go.Proofs.YtlflpbflpcmckaaDoor
open Go Go.Ez Go.RowKit Go.Lib
set_option linter.unusedSimpArgs false
set_option linter.unusedVariables false
theorem putU_len (s : Txt) (m : List (Txt × Unit)) : (putK s () m).length = if hasK s m then m.length else m.length + 1 := by
  have h := congrArg List.length (put_fst s m)
  rw [List.length_map] at h
  rw [h]
  have hp := posK_le s m
  split
  · rw [List.length_map]
  · simp only [List.length_append, List.length_take, List.length_cons, List.length_drop, List.length_map]; omega
theorem uq_facts (ls : List Txt) : ∀ i, i ≤ ls.length → (∀ s, (getK s (uniqM (ls.take i))).isSome = true ↔ s ∈ ls.take i) ∧ (uniqM (ls.take i)).length ≤ i ∧ ((uniqM (ls.take i)).length = i ↔ (ls.take i).Nodup)
  | 0, _ => by
    rw [List.take_zero]
    exact ⟨fun s => by simp [uniqM, getK], Nat.le_refl _, by simp [uniqM]⟩
  | i + 1, hi => by
    obtain ⟨h1, h2, h3⟩ := uq_facts ls i (by omega)
    have hs : ls[i]? = some ls[i] := List.getElem?_eq_getElem (by omega)
    have hsnoc : uniqM (ls.take (i + 1)) = putK ls[i] () (uniqM (ls.take i)) := by rw [List.take_add_one, hs]; exact uniqM_snoc _ _
    have htk : ls.take (i + 1) = ls.take i ++ [ls[i]] := by rw [List.take_add_one, hs]; rfl
    have hsrt := uniqM_srt (ls.take i)
    have hhas := hasK_get (k := ls[i]) hsrt
    rw [hsnoc, htk]
    generalize ls[i] = s at *
    generalize uniqM (ls.take i) = m at *
    refine ⟨fun j => ?_, ?_, ?_⟩
    · rw [get_put hsrt, List.mem_append, List.mem_singleton]
      by_cases hj : j = s
      · rw [if_pos hj]; simp [hj]
      · rw [if_neg hj, h1 j]; simp [hj]
    · rw [putU_len]; split <;> omega
    · rw [putU_len]
      by_cases hm : s ∈ ls.take i
      · have : hasK s m = true := by rw [hhas]; exact (h1 s).2 hm
        rw [if_pos this]
        constructor
        · intro h; omega
        · intro h
          have := (List.nodup_append.1 h).2.2 s hm s (by simp)
          exact absurd rfl this
      · have : hasK s m = false := by
          rw [hhas]
          cases hx : (getK s m).isSome
          · rfl
          · exact absurd ((h1 s).1 hx) hm
        rw [this]
        simp only [Bool.false_eq_true, if_false]
        constructor
        · intro h
          refine List.nodup_append.2 ⟨h3.1 (by omega), by simp, ?_⟩
          intro x hx y hy
          rw [List.mem_singleton.1 hy]
          exact fun e => hm (e ▸ hx)
        · intro h
          have := h3.2 (List.nodup_append.1 h).1
          omega
theorem uniq_lt (ls : List Txt) : ((uniq ls).length < ls.length ↔ ¬ ls.Nodup) := by
  obtain ⟨_, h2, h3⟩ := uq_facts ls ls.length (Nat.le_refl _)
  rw [List.take_length] at h2 h3
  have e : (uniq ls).length = (uniqM ls).length := by unfold uniq; rw [List.length_map]
  rw [e, ← h3]
  omega
theorem nodup_pair {ls : List Txt} : (ls.map fun n => (([] : Txt), n)).Nodup ↔ ls.Nodup := by
  constructor
  · intro h
    refine (List.pairwise_map.1 h).imp ?_
    intro a b hab e
    exact hab (by rw [e])
  · intro h
    refine List.pairwise_map.2 (h.imp ?_)
    intro a b hab e
    exact hab (Prod.ext_iff.1 e).2
section
variable {w0 W W' : World} {G : Nat → Prop} {l R R1 R2 : List As} {RR : Value → World → Prop} {s a b : Txt} {v v0 v1 : Value} {i n : Nat} {ns vs : List Txt}
theorem letters_spec (hs : s.length ≤ 9223372036854775807) (k : RR (.bool (lettersB s)) W) : CallF Tryd.prog 15 #[strV s] W RR := by
  refine sh15_calls ?_
  unfold sh15
  refine lpx (α := Nat) (fun i => [nV .i64 i]) (fun i W' => W' = W ∧ i ≤ s.length ∧ ((s.drop i).all fun c => decide (97 ≤ c.toNat ∧ c.toNat ≤ 122)) = s.all fun c => decide (97 ≤ c.toNat ∧ c.toNat ≤ 122)) (fun i => s.length - i) 0 (fun _ => rfl) rfl ⟨rfl, Nat.zero_le _, rfl⟩ ?_
  rintro next i W1 hnext ⟨rfl, h1, h2⟩
  refine app1 ?_
  unfold lettersB at k
  refine x_len (a_lss (ifd (fun hc => ?_) fun hc => ?_))
  · have hi : i < s.length := by omega
    have ga : s[i]? = some s[i] := List.getElem?_eq_getElem hi
    rw [List.drop_eq_getElem_cons hi, List.all_cons] at h2
    generalize s[i] = x at ga h2
    have hx := x.toNat_lt
    refine x_index ga (a_lss (ifd (fun hl => ?_) fun hl => ?_))
    · rw [← h2, decide_eq_false (by omega), Bool.false_and, Bool.false_and] at k
      exact k
    refine x_index ga (a_gtr (ifd (fun hl => ?_) fun hl => ?_))
    · rw [← h2, decide_eq_false (by omega), Bool.false_and, Bool.false_and] at k
      exact k
    rw [decide_eq_true (show 97 ≤ x.toNat ∧ x.toNat ≤ 122 by omega), Bool.true_and] at h2
    refine a_add64 (by omega) (by omega) ⟨rfl, ?_⟩
    rw [show ((i : Int) + 1) = ((i + 1 : Nat) : Int) by push_cast; rfl]
    exact hnext (i + 1) _ (by omega) ⟨rfl, by omega, h2⟩
  · have hi : i = s.length := by omega
    rw [hi, List.drop_length, List.all_nil] at h2
    rw [← h2, Bool.true_and] at k
    refine x_len (a_geq (ifd (fun h1 => ?_) fun h1 => ?_))
    · refine x_len (a_leq ?_)
      have : decide ((s.length : Int) ≤ 100) = decide (1 ≤ s.length ∧ s.length ≤ 100) := decide_eq_decide.2 (by omega)
      rw [this]; exact k
    · rw [decide_eq_false (by omega)] at k; exact k
theorem attsT_snoc (az : List ((Txt × Txt) × Txt)) (x : (Txt × Txt) × Txt) : attsT (az ++ [x]) = attsT az ++ 32 :: attT x := by simp [attsT]
theorem attT_len {x : (Txt × Txt) × Txt} (h1 : x.1.1 = []) (h2 : x.1.2.length ≤ 100) (h3 : x.2.length ≤ 100) : (attT x).length ≤ 703 := by
  have h := (escS_len x.2).2
  unfold attT nmT
  rw [if_pos h1]
  simp
  omega
theorem attsT_le : ∀ {az : List ((Txt × Txt) × Txt)}, (∀ x ∈ az, x.1.1 = [] ∧ x.1.2.length ≤ 100 ∧ x.2.length ≤ 100) → (attsT az).length ≤ 704 * az.length
  | [], _ => Nat.le_refl _
  | a :: az, h => by
    have h1 := h a (by simp)
    have h2 := attT_len h1.1 h1.2.1 h1.2.2
    have h3 := attsT_le (az := az) fun x hx => h x (by simp [hx])
    rw [attsT_cons, List.length_cons, List.length_cons, List.length_append]
    omega
/-- XmlNames -/
theorem names_spec (hT : XTabs w0) (hn : Sl w0 1 v0 ns.length (ns.map Enc.enc)) (hv : Sl w0 1 v1 vs.length (vs.map Enc.enc)) (hnl : ns.length ≤ 9223372036854775807) (hvl : vs.length ≤ 9223372036854775807) (hse : ∀ s ∈ ns, s.length ≤ 9223372036854775807) (hve : ∀ s ∈ vs, s.length ≤ 9223372036854775807) (h : St w0 G0 [] W) (k : ∀ W', St w0 G0 [] W' → RR (.bool true) W') : CallF Tryd.prog 6 #[v0, v1] W RR := by
  refine sh6_calls ?_
  unfold sh6
  refine first_spec hT h fun W h => a_not (iff' ?_)
  have out : ∀ W, St w0 G0 [] W → CallF Tryd.prog 9 #[] W fun t w => RR t w := fun W h => first_spec hT h fun W h => k W h
  refine x_lenS hn (a_gtr (ifd (fun hc => out W h) fun hc => ?_))
  refine x_lenS hv (x_lenS hn (w_neq (ifd (fun hc2 => out W h) fun hc2 => ?_)))
  have hlen : vs.length = ns.length := by omega
  have hl20 : ns.length ≤ 20 := by omega
  generalize haz : nmAs ns vs = az
  have hazl : az.length = ns.length := by rw [← haz]; exact nmAs_len hlen
  have hget : ∀ {i : Nat} {n v : Txt}, ns[i]? = some n → vs[i]? = some v → az[i]? = some (([], n), v) := fun h1 h2 => by rw [← haz]; exact nmAs_get h1 h2
  refine lpx (α := Nat) (fun i => [strV (60 :: 101 :: attsT (az.take i)), nV .i64 i]) (fun i W' => i ≤ ns.length ∧ (∀ x ∈ az.take i, x.1.1 = [] ∧ lettersB x.1.2 = true ∧ x.1.2 ≠ [120, 109, 108, 110, 115] ∧ x.2.length ≤ 100 ∧ cleanS x.2 = true) ∧ St w0 G0 [] W') (fun i => ns.length - i) 0 (fun _ => rfl) rfl ⟨Nat.zero_le _, by simp, h⟩ ?_
  clear h
  rintro next i W1 hnext ⟨h1, hall, h⟩
  have hlet : ∀ {x : Txt}, lettersB x = true → x.length ≤ 100 := fun hx => by
    unfold lettersB at hx
    rw [Bool.and_eq_true] at hx
    exact (of_decide_eq_true hx.2).2
  refine app2 ?_
  refine x_lenS hn (a_lss (ifd (fun hlt => ?_) fun hlt => ?_))
  · have hi : i < ns.length := by omega
    have gn : ns[i]? = some ns[i] := List.getElem?_eq_getElem hi
    have gv : vs[i]? = some vs[i] := List.getElem?_eq_getElem (by omega)
    have hnle := hse _ (List.mem_of_getElem? gn)
    have hvle := hve _ (List.mem_of_getElem? gv)
    generalize ns[i] = nm at gn hnle
    generalize vs[i] = vl at gv hvle
    have hga := hget gn gv
    have en : (ns.map (Enc.enc (κ := Txt)))[i]? = some (strV nm) := by rw [List.getElem?_map, gn]; rfl
    have ev : (vs.map (Enc.enc (κ := Txt)))[i]? = some (strV vl) := by rw [List.getElem?_map, gv]; rfl
    refine x_at (hn.below h.low) en ?_
    refine letters_spec hnle (a_not (ifnb (fun hb => out W1 h) fun hlb => ?_))
    refine x_at (hn.below h.low) en ?_
    refine w_eqlL (ifd (fun hb => out W1 h) fun hx => ?_)
    refine x_at (hv.below h.low) ev ?_
    refine x_len (a_gtr (ifd (fun hb => out W1 h) fun hvl => ?_))
    refine x_at (hv.below h.low) ev ?_
    refine clean_spec (by omega) (a_not (ifnb (fun hb => out W1 h) fun hcl => ?_))
    have hnm := hlet hlb
    have het := (escS_len vl).2
    have hal : (attsT (az.take i)).length ≤ 704 * (az.take i).length := attsT_le fun x hx => ⟨(hall x hx).1, hlet (hall x hx).2.1, (hall x hx).2.2.2.1⟩
    rw [List.length_take] at hal
    refine ⟨fun W' => W' = W1.drew, rfl, ?_⟩
    have h' := h.drew
    refine x_sat (w1 := W1.drew) (hn.below h'.low) (fun w hw => by subst hw; exact hn.below h'.low) en ?_
    refine a_cat (l := [32]) (m := nm) (by simp; omega) ?_
    refine a_cat (m := [61, 34]) (by simp; omega) ?_
    refine x_sat (w1 := W1.drew) (hv.below h'.low) (fun w hw => by subst hw; exact hv.below h'.low) ev ?_
    refine escaped_spec (by omega) ⟨rfl, ?_⟩
    refine a_cat (m := escS vl) (by simp; omega) ?_
    refine a_cat (m := [34]) (by simp; omega) ?_
    refine a_cat (l := 60 :: 101 :: attsT (az.take i)) (by simp; omega) ?_
    refine a_add64 (by omega) (by omega) ⟨rfl, rfl, ?_⟩
    rw [show ((i : Int) + 1) = ((i + 1 : Nat) : Int) by push_cast; rfl]
    have htk : az.take (i + 1) = az.take i ++ [(([], nm), vl)] := by rw [List.take_add_one, hga]; rfl
    have e : (60 :: 101 :: attsT (az.take i)) ++ ([32] ++ nm ++ [61, 34] ++ escS vl ++ [34]) = 60 :: 101 :: attsT (az.take (i + 1)) := by
      rw [htk, attsT_snoc]
      simp [attT, nmT]
    rw [e]
    refine hnext (i + 1) _ (by omega) ⟨by omega, fun x hx' => ?_, h'⟩
    rw [htk] at hx'
    rcases List.mem_append.1 hx' with hx' | hx'
    · exact hall x hx'
    · rw [List.mem_singleton.1 hx']
      exact ⟨rfl, hlb, hx, by show vl.length ≤ 100; omega, hcl⟩
  · have hi : i = ns.length := by omega
    have htk : az.take i = az := List.take_of_length_le (by omega)
    rw [htk] at hall ⊢
    clear hnext hlt
    have hal : (attsT az).length ≤ 704 * az.length := attsT_le fun x hx => ⟨(hall x hx).1, hlet (hall x hx).2.1, (hall x hx).2.2.2.1⟩
    refine a_cat (l := 60 :: 101 :: attsT az) (m := [47, 62]) (by simp; omega) ?_
    have hdoc : (60 :: 101 :: attsT az) ++ [47, 62] = nmDoc az := by simp [nmDoc, nmT]
    rw [hdoc]
    have hdl : (nmDoc az).length ≤ 20000 := by rw [← hdoc]; simp; omega
    have haok : ∀ x ∈ az, AOk x := fun x hx => by
      obtain ⟨g1, g2, g3, g4, g5⟩ := hall x hx
      exact ⟨⟨.inl g1, letters_nm g2⟩, g5, by omega⟩
    have hnd : noDup [] az = true ↔ ns.Nodup := by
      have := noDup_iff (az := az) (l := []) (by simp)
      rw [List.map_nil, List.nil_append] at this
      rw [this, ← haz, nmAs_fst hlen, nodup_pair]
    refine h.ofStr fun vd W o0 h => ?_
    refine tokens_spec hT (s := nmDoc az) h (h.rsl (v := vd)) fun vt W h t1 => a_ext0 (a_ext1 ?_)
    have hT1 := xtabs_at hT h
    have h0 : St w0 G0 [] W := h.to
    refine unique_spec (ls := ns) (hn.below h.low) (by omega) fun vu W2 hu hb2 => ?_
    replace t1 := t1.below hb2
    replace h0 := h0.ext hb2
    replace hT1 : XTabs W2 := xtabs_at hT h0
    clear h
    refine x_lenS (Sl.of_own hu) (x_lenS (hn.below h0.low) (a_lss (ifd (fun hult => ?_) fun hult => ?_)))
    · have hnodup := (uniq_lt ns).1 (by omega)
      have hd : noDup [] az = false := by
        cases hx : noDup [] az
        · rfl
        · exact absurd (hnd.1 hx) hnodup
      rw [nm_bad hdl haok hd]
      refine first_spec hT h0 fun W h => ift ?_
      exact w_eql (k _ h)
    · have hnodup : ns.Nodup := Classical.byContradiction fun hx => hult (by have := (uniq_lt ns).2 hx; omega)
      have hok := nm_ok hdl haok (fun x hx => ⟨(hall x hx).1, (hall x hx).2.2.1⟩) (hnd.2 hnodup)
      rw [hok] at t1 ⊢
      refine w_neq (ifd_neg (fun hx => hx rfl) ?_)
      obtain ⟨cs, hcs⟩ := tk_len t1
      refine x_lenS hcs (w_neq (ifd_neg (fun hx => hx rfl) ?_))
      refine x_tkAtt (i := 0) t1 rfl fun va hva => ?_
      have hatl : (nmAts az).length = ns.length := by unfold nmAts; rw [List.length_map, hazl]
      refine x_lenS hva (x_lenS (hn.below h0.low) (w_neq (ifd_neg (fun hx => hx (by show ((nmAts az).length : Int) = _; rw [hatl])) ?_)))
      refine lpx (α := Nat) (fun i => [nV .i64 i]) (fun i W' => i ≤ ns.length ∧ St W2 G0 [] W') (fun i => ns.length - i) 0 (fun _ => rfl) rfl ⟨Nat.zero_le _, St.start W2⟩ ?_
      rintro next j W1 hnext ⟨g1, h⟩
      refine app1 ?_
      have hnW := (hn.below h0.low).below h.low
      have hvW := (hv.below h0.low).below h.low
      refine x_lenS hnW (a_lss (ifd (fun hlt => ?_) fun hlt => ?_))
      · have hj : j < ns.length := by omega
        have gn : ns[j]? = some ns[j] := List.getElem?_eq_getElem hj
        have gv : vs[j]? = some vs[j] := List.getElem?_eq_getElem (by omega)
        generalize ns[j] = nm at gn
        generalize vs[j] = vl at gv
        have hga := hget gn gv
        have hat : (nmAts az)[j]? = some ⟨[], nm, vl⟩ := by unfold nmAts; rw [List.getElem?_map, hga]; rfl
        have en : (ns.map (Enc.enc (κ := Txt)))[j]? = some (strV nm) := by rw [List.getElem?_map, gn]; rfl
        have ev : (vs.map (Enc.enc (κ := Txt)))[j]? = some (strV vl) := by rw [List.getElem?_map, gv]; rfl
        refine x_tkAtt (i := 0) (t1.below h.low) rfl fun va hva => ?_
        refine x_rcl (a := ⟨[], nm, vl⟩) atc_len hva rfl hat ?_
        refine h.allocS fun t10 W h => ?_
        refine h.storeS (cs' := atc ⟨[], nm, vl⟩) fun W h => ?_
        refine ⟨St W2 G0 _, h.drew, ?_⟩
        replace h := h.drew
        have hS1 : ∀ w, St W2 G0 (Ky t10 (Ob (.cells (atc ⟨[], nm, vl⟩).toArray 35 (0, 0))) :: []) w → Sl w 1 v0 ns.length (ns.map Enc.enc) := fun w hw => (hn.below h0.low).below hw.low
        have hS2 : ∀ w, St W2 G0 (Ky t10 (Ob (.cells (atc ⟨[], nm, vl⟩).toArray 35 (0, 0))) :: []) w → Sl w 1 v1 vs.length (vs.map Enc.enc) := fun w hw => (hv.below h0.low).below hw.low
        refine a_fld0 (ss_load ?_)
        refine x_sat (hS1 _ h) hS1 en ?_
        refine s_neqL (ifd_neg (fun hx => hx rfl) ?_)
        refine a_fld0 (ss_load ?_)
        refine x_sat (hS2 _ h) hS2 ev ?_
        refine s_neqL (ifd_neg (fun hx => hx rfl) ?_)
        refine a_fld0 (ss_load ?_)
        refine s_neqL (ifd_neg (fun hx => hx rfl) ?_)
        refine a_add64 (by omega) (by omega) ⟨rfl, rfl, rfl, ?_⟩
        rw [show ((j : Int) + 1) = ((j + 1 : Nat) : Int) by push_cast; rfl]
        exact hnext (j + 1) _ (by omega) ⟨by omega, h.tail⟩
      · refine first_spec hT1 h fun W h => ?_
        exact k _ (h0.ext h.low)
end
end Go.Proofs.YtlflpbflpcmckaaDoor
