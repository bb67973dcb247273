/-
  Parts of the proofs of FeedOnce, FeedKinds, FeedMore.
-/
import Derived.Test.YtlflpbflpcmckaaGreatDoorPkFeedE
namespace Go.Proofs.YtlflpbflpcmckaaGreatDoor
open Go Go.Ez Go.RowKit
set_option linter.unusedSimpArgs false
set_option linter.unusedVariables false
/-- texts, each once, as a map to nothing -/
def uniqM (ls : List Txt) : List (Txt × Unit) := ls.foldl (fun m s => putK s () m) []
def uniq (ls : List Txt) : List Txt := (uniqM ls).map Prod.fst
theorem uniqM_srt (ls : List Txt) : Srt (uniqM ls) := by
  have : ∀ (ls : List Txt) (m : List (Txt × Unit)), Srt m → Srt (ls.foldl (fun m s => putK s () m) m) := by
    intro ls
    induction ls with
    | nil => intro m hm; exact hm
    | cons s ls ih => intro m hm; exact ih _ (srt_put hm)
  exact this ls [] List.Pairwise.nil
theorem uniqM_snoc (ls : List Txt) (s : Txt) : uniqM (ls ++ [s]) = putK s () (uniqM ls) := by simp [uniqM, List.foldl_append]
theorem putK_len {κ β : Type} [OKey κ] [DecidableEq κ] (k : κ) (v : β) (m : List (κ × β)) : (putK k v m).length ≤ m.length + 1 := by
  have := posK_le k m
  unfold putK
  split <;> simp [List.length_take, List.length_drop] <;> omega
theorem uniqM_len (ls : List Txt) : (uniqM ls).length ≤ ls.length := by
  have : ∀ (ls : List Txt) (m : List (Txt × Unit)), (ls.foldl (fun m s => putK s () m) m).length ≤ m.length + ls.length := by
    intro ls
    induction ls with
    | nil => intro m; simp
    | cons s ls ih => intro m; have h1 := ih (putK s () m); have h2 := putK_len s () m; simp only [List.foldl_cons, List.length_cons]; omega
  have := this ls []
  rw [List.length_nil, Nat.zero_add] at this
  exact this
theorem put_fst (s : Txt) (m : List (Txt × Unit)) : (putK s () m).map Prod.fst = if hasK s m then m.map Prod.fst else (m.map Prod.fst).take (posK s m) ++ s :: (m.map Prod.fst).drop (posK s m) := by
  unfold putK
  split
  · rename_i h
    obtain ⟨u, hu⟩ := hasK_spec.1 h
    rw [List.map_set]
    refine List.ext_getElem? fun i => ?_
    by_cases hi : posK s m = i
    · subst hi
      rw [List.getElem?_set_self (by rw [List.length_map]; exact (List.getElem?_eq_some_iff.1 hu).1), List.getElem?_map, hu]; rfl
    · rw [List.getElem?_set_ne hi]
  · simp [List.map_take, List.map_drop]
/-- hblref.Unique -/
theorem unique_spec {ls : List Txt} {v : Value} {n : Nat} {w : World} {R : Value → World → Prop} (hv : Sl w 1 v n (ls.map Enc.enc)) (hl : ls.length ≤ 1000000)
    (k : ∀ v' W', W'.ownsRow w.heap.size 9 1 v' (uniq ls).length ((uniq ls).map Enc.enc) → Below w.heap.size w W' → R v' W') : CallF Tryz.prog 11 #[v] w R := by
  refine sh11_calls ?_
  unfold sh11
  have hn : n = ls.length := by obtain ⟨_, _, _, _, h, _⟩ := hv; simpa using h.symm
  subst hn
  refine lpx (α := Nat × Value) (fun x => [x.2, nV .i64 x.1]) (fun x W => x.1 ≤ ls.length ∧ St w G0 [Ky x.2 (Ow 9 1 (uniq (ls.take x.1)).length ((uniq (ls.take x.1)).map Enc.enc))] W) (fun x => ls.length - x.1) (0, .slice none 0 0) (fun _ => rfl) rfl ⟨Nat.zero_le _, (St.start w).nilOw⟩ ?_
  rintro next ⟨i, u⟩ W hnext ⟨hi, h⟩
  simp only at hi h
  refine app2 ?_
  refine x_lenS hv ?_
  refine a_lss (ifd (fun hc => ?_) fun hc => ?_)
  · have hil : i < ls.length := by omega
    obtain ⟨s, hs⟩ : ∃ s, ls[i]? = some s := ⟨_, List.getElem?_eq_getElem hil⟩
    have hsv : (ls.map (Enc.enc (κ := Txt)))[i]? = some (Enc.enc s) := by rw [List.getElem?_map, hs]; rfl
    have hsnoc : uniqM (ls.take (i + 1)) = putK s () (uniqM (ls.take i)) := by rw [List.take_add_one, hs]; exact uniqM_snoc _ s
    have hsrt := uniqM_srt (ls.take i)
    have hul := uniqM_len (ls.take i)
    have hut : uniq (ls.take (i + 1)) = (putK s () (uniqM (ls.take i))).map Prod.fst := by unfold uniq; rw [hsnoc]
    rw [put_fst] at hut
    rw [List.length_take] at hul
    have hudef : uniq (ls.take i) = (uniqM (ls.take i)).map Prod.fst := rfl
    rw [hudef] at h
    generalize uniqM (ls.take i) = m at *
    have hple := posK_le s m
    refine jni (fun vs W => ∃ u', vs = [v, u', nV .i64 i] ∧ St w G0 [Ky u' (Ow 9 1 (uniq (ls.take (i + 1))).length ((uniq (ls.take (i + 1))).map Enc.enc))] W) ?_ ?_
    · rintro vs W' _ ⟨u', rfl, h⟩
      refine app3 ?_
      refine a_add64 (by omega) (by omega) ⟨rfl, ?_⟩
      rw [show ((i : Int) + 1) = ((i + 1 : Nat) : Int) by push_cast; rfl]
      exact hnext (i + 1, u') W' (by omega) ⟨by omega, h⟩
    refine x_lenS (h.osl (v := u)) ?_
    rw [List.length_map] at h ⊢
    -- the scan
    refine jni (fun vs W => vs = [v, u, nV .i64 i, nV .i64 (posK s m)] ∧ St w G0 [Ky u (Ow 9 1 m.length ((m.map Prod.fst).map Enc.enc))] W) ?_ ?_
    · rintro vs W _ ⟨rfl, h⟩
      refine app4 ?_
      refine jni (fun vs W => vs = [v, u, nV .i64 i, nV .i64 (posK s m)] ∧ hasK s m = false ∧ St w G0 [Ky u (Ow 9 1 m.length ((m.map Prod.fst).map Enc.enc))] W) ?_ ?_
      · rintro vs W _ ⟨rfl, hh, h⟩
        refine app4 ?_
        refine ⟨fun W' => Sl W' 1 v ls.length (ls.map Enc.enc), h.drew.sl0 hv, ?_⟩
        replace h := h.drew
        refine x_cutOw (v := u) h hple ?_
        refine x_sat (w1 := W.drew) (h.sl0 hv) (fun w' hw => hw) hsv ?_
        refine x_cutRd (h.osl (v := u)) hple fun t hts => ?_
        refine h.litB (vs := [Enc.enc s]) (fun t1 W1 o1 m1 h1 => ?_) (by decide)
        refine St.app (v := t1) h1 (hts.below m1) (fun c hc => by obtain ⟨x, _, rfl⟩ := List.mem_map.1 (List.mem_of_mem_drop hc); exact Enc.one x) (by unfold maxLen; omega) (by omega) fun t2 W2 o2 h2 _ => ?_
        replace h2 := (St.find (k := u) (X := Ow 9 1 m.length ((m.map Prod.fst).map Enc.enc)) h2).cutOw (v := u) hple
        refine St.app (v := cutV u (posK s m)) h2 (h2.osl (v := t2)) (fun c hc => ?_) (by unfold maxLen; omega) (by omega) fun t3 W3 o3 h3 _ => ?_
        · rcases List.mem_append.1 hc with hc | hc
          · rw [List.mem_singleton] at hc; subst hc; exact Enc.one s
          · obtain ⟨x, _, rfl⟩ := List.mem_map.1 (List.mem_of_mem_drop hc); exact Enc.one x
        · rw [hh, if_neg (by simp)] at hut
          refine ⟨t3, rfl, ?_⟩
          rw [hut]
          have e1 : posK s m + (1 + (m.length - posK s m)) = ((m.map Prod.fst).take (posK s m) ++ s :: (m.map Prod.fst).drop (posK s m)).length := by
            simp only [List.length_append, List.length_take, List.length_cons, List.length_drop, List.length_map]; omega
          have e2 : ((m.map Prod.fst).map (Enc.enc (κ := Txt))).take (posK s m * 1) ++ ([Enc.enc s] ++ ((m.map Prod.fst).map Enc.enc).drop (posK s m * 1)) = ((m.map Prod.fst).take (posK s m) ++ s :: (m.map Prod.fst).drop (posK s m)).map Enc.enc := by
            simp only [Nat.mul_one, List.map_append, List.map_cons, List.map_take, List.map_drop, List.singleton_append]
          rw [e1, e2] at h3
          exact h3.to
      · refine ⟨fun W' => W' = W.drew, rfl, ?_⟩
        have h' := h.drew
        refine x_lenSs (h.osl (v := u)) ?_
        refine a_lss (ifd (fun hc => ?_) fun hc => ?_)
        · obtain ⟨p, hp⟩ : ∃ p, m[posK s m]? = some p := ⟨_, List.getElem?_eq_getElem (by omega)⟩
          refine x_sat (h'.osl (v := u)) (fun w' hw => by subst hw; exact h'.osl (v := u)) (by rw [List.getElem?_map, List.getElem?_map, hp]; rfl) ?_
          refine x_sat (w1 := W.drew) (h'.sl0 hv) (fun w' hw => by subst hw; exact h'.sl0 hv) hsv ?_
          have hhas : hasK s m = decide (p.1 = s) := by unfold hasK; rw [hp]
          refine s_eqlL (ifd (fun hc => ?_) fun hc => ?_)
          · have hps : p.1 = s := hc
            rw [hhas, decide_eq_true hps, if_pos rfl] at hut
            refine ⟨u, rfl, ?_⟩
            rw [hut, List.length_map]
            exact h'
          · have hps : p.1 ≠ s := hc
            exact ⟨rfl, by rw [hhas, decide_eq_false hps], h'⟩
        · have hhas : hasK s m = false := by unfold hasK; rw [List.getElem?_eq_none (by omega)]
          exact ⟨rfl, hhas, h'⟩
    · refine lpx (α := Nat) (fun j => [nV .i64 j]) (fun j W => posK s m ≤ j ∧ j ≤ m.length ∧ St w G0 [Ky u (Ow 9 1 m.length ((m.map Prod.fst).map Enc.enc))] W) (fun j => j) m.length (fun _ => rfl) rfl ⟨hple, Nat.le_refl _, h⟩ ?_
      rintro nxt j W hnxt ⟨hj1, hj2, h⟩
      refine app1 ?_
      refine ⟨fun W' => W' = W.drew, rfl, ?_⟩
      have h' := h.drew
      refine a_gtr (ifd (fun hc => ?_) fun hc => ?_)
      · have hj0 : 0 < j := by omega
        refine a_sub64 (by omega) (by omega) ?_
        rw [show ((j : Int) - 1) = ((j - 1 : Nat) : Int) by omega]
        obtain ⟨p, hp⟩ : ∃ p, m[j - 1]? = some p := ⟨_, List.getElem?_eq_getElem (by omega)⟩
        refine x_sat (h'.osl (v := u)) (fun w' hw => by subst hw; exact h'.osl (v := u)) (by rw [List.getElem?_map, List.getElem?_map, hp]; rfl) ?_
        refine x_sat (w1 := W.drew) (h'.sl0 hv) (fun w' hw => by subst hw; exact h'.sl0 hv) hsv ?_
        have hiff := posK_iff (k := s) hsrt hp
        refine x_geqL (ifnb (fun hb => ?_) fun hb => ?_)
        · refine a_sub64 (by omega) (by omega) ⟨rfl, rfl, rfl, ?_⟩
          rw [show ((j : Int) - 1) = ((j - 1 : Nat) : Int) by omega]
          refine hnxt (j - 1) _ (by omega) ⟨?_, by omega, h'⟩
          rcases Nat.lt_or_ge (j - 1) (posK s m) with h1 | h1
          · have := hiff.2 h1
            have hb' : OKey.lt p.1 s = false := hb
            rw [hb'] at this; cases this
          · exact h1
        · have := hiff.1 hb
          obtain rfl : j = posK s m := by omega
          exact ⟨rfl, h'⟩
      · obtain rfl : j = posK s m := by omega
        exact ⟨rfl, h'⟩
  · have hil : i = ls.length := by omega
    subst hil
    rw [List.take_length] at h
    exact k u W (h.owG (v := u)) h.low
end Go.Proofs.YtlflpbflpcmckaaGreatDoor
namespace Go.Proofs.YtlflpbflpcmckaaGreatDoor
open Go Go.Ez Go.RowKit Go.Lib
set_option linter.unusedSimpArgs false
set_option linter.unusedVariables false
def gItem (g : Txt) : XE := nodeE [] tItem [leafE tGuid g]
def lItem (m : Txt) : XE := nodeE [] tItem [leafE tLink m]
def xItem : XE := nodeE [] tItem [leafE tTitle [120]]
def gEnt (g : Txt) : Ent := ⟨0, g, [], [], 0⟩
def lEnt (m : Txt) : Ent := ⟨0, [], [], m, 0⟩
def xEnt : Ent := ⟨0, [], [120], [], 0⟩
theorem one_item {x s : Txt} (hx : ((match x with | c :: _ => XRd.begs c | [] => false) && x.all XRd.goes) = true) (hs : pB s = true) : (nodeE [] tItem [leafE x s]).Ok 2 [] :=
  node_ok (k := 1) (nmOkB (by decide)) fun e he => by rw [List.mem_singleton.1 he]; exact leafB (by decide) hx hs
theorem no1 {x nm s : Txt} (h : x ≠ nm) : inT [] nm (elT tItem [] [] (catT [] [leafE x s])) = [] :=
  inT_none (fun e he => by rw [List.mem_singleton.1 he]; exact bb_leaf _ _) (List.filter_eq_nil_iff.2 fun e he => by rw [List.mem_singleton.1 he]; simpa [leafE] using h)
theorem yes1 {x s : Txt} : inT [] x (elT tItem [] [] (catT [] [leafE x s])) = trimX s :=
  (inT_el (e := leafE x s) (r := []) (fun e he => by rw [List.mem_singleton.1 he]; exact bb_leaf _ _) (by rw [List.filter_cons_of_pos (by simp [leafE])]; rfl) (by simp)).trans rfl
theorem gItem_x {g : Txt} (hg : pB g = true) : itemX ((gItem g).toks []) = gEnt g := by
  show (⟨0, inT [] tGuid (elT tItem [] [] (catT [] [leafE tGuid g])), inT [] tTitle (elT tItem [] [] (catT [] [leafE tGuid g])), inT [] tLink (elT tItem [] [] (catT [] [leafE tGuid g])), whenX (inT [] tPub (elT tItem [] [] (catT [] [leafE tGuid g])))⟩ : Ent) = _
  rw [yes1, no1 (by decide), no1 (by decide), no1 (by decide), when0, pB_trim hg]; rfl
theorem lItem_x {m : Txt} (hm : pB m = true) : itemX ((lItem m).toks []) = lEnt m := by
  show (⟨0, inT [] tGuid (elT tItem [] [] (catT [] [leafE tLink m])), inT [] tTitle (elT tItem [] [] (catT [] [leafE tLink m])), inT [] tLink (elT tItem [] [] (catT [] [leafE tLink m])), whenX (inT [] tPub (elT tItem [] [] (catT [] [leafE tLink m])))⟩ : Ent) = _
  rw [no1 (by decide), no1 (by decide), yes1, no1 (by decide), when0, pB_trim hm]; rfl
theorem xItem_x : itemX (xItem.toks []) = xEnt := by
  show (⟨0, inT [] tGuid (elT tItem [] [] (catT [] [leafE tTitle [120]])), inT [] tTitle (elT tItem [] [] (catT [] [leafE tTitle [120]])), inT [] tLink (elT tItem [] [] (catT [] [leafE tTitle [120]])), whenX (inT [] tPub (elT tItem [] [] (catT [] [leafE tTitle [120]])))⟩ : Ent) = _
  rw [no1 (by decide), yes1, no1 (by decide), no1 (by decide), when0]; rfl
theorem xItem_ok : xItem.Ok 2 [] := one_item (by decide) (by decide)
def rssB (Es : List XE) : Txt := opn tRss ++ ((nodeE [] tChan Es).doc ++ cls tRss)
theorem rssB_tok {Es : List XE} (hE : ∀ e ∈ Es, e.Ok 2 []) (hl : (rssB Es).length ≤ 20000) : tokX (rssB Es) = (elT tRss [] [] (catT [] [nodeE [] tChan Es]), 0) := by
  have hn : (nodeE [] tChan Es).Ok 3 [] := node_ok (nmOkB (by decide)) hE
  refine tok_root (k := 3) (sp := []) (x := tRss) (d := (nodeE [] tChan Es).doc) (az := []) (ats := []) (nmOkB (by decide)) (by simp) rfl rfl rfl ⟨by simp, by decide, fun n => rfl⟩ ?_ ?_ hl
  · have := hn.r
    have e : catT [] [nodeE [] tChan Es] = (nodeE [] tChan Es).toks [] := by rw [catT_cons]; exact List.append_nil _
    rw [e]; exact this
  · unfold rssB opn
    rfl
theorem readB {Es : List XE} (hE : ∀ e ∈ Es, e.Ok 2 []) (hn : ∀ e ∈ Es, e.nm = tItem) : readX (elT tRss [] [] (catT [] [nodeE [] tChan Es])) = (([], entsF (Es.map fun e => itemX (e.toks []))), true) := by
  have hB : ∀ e ∈ Es, BB e.body e.tx := fun e he => (hE e he).b
  have hBn : ∀ e ∈ [nodeE [] tChan Es], BB e.body e.tx := fun e he => by
    rw [List.mem_singleton.1 he]; exact catT_BB hB
  have hch : childX [] tChan (elT tRss [] [] (catT [] [nodeE [] tChan Es])) = some (elT tChan [] [] (catT [] Es)) := by
    unfold childX
    rw [subs_el hBn]
    rfl
  have hf1 : (Es.filter fun e => decide (([] : Txt) = [] ∧ e.nm = tTitle)) = [] := by
    rw [List.filter_eq_nil_iff]
    intro e he
    rw [hn e he]; decide
  have hf2 : (Es.filter fun e => decide (([] : Txt) = [] ∧ e.nm = tItem)) = Es := by
    rw [List.filter_eq_self]
    intro e he
    rw [hn e he]; decide
  show readX (⟨1, [], tRss, [], []⟩ :: _) = _
  rw [readX_cons, if_pos ⟨rfl, rfl⟩]
  show ((inT [] tTitle ((childX [] tChan (elT tRss [] [] (catT [] [nodeE [] tChan Es]))).getD []), (subs [] tItem ((childX [] tChan (elT tRss [] [] (catT [] [nodeE [] tChan Es]))).getD [])).foldl (fun l c => addX l (itemX c)) []), (childX [] tChan (elT tRss [] [] (catT [] [nodeE [] tChan Es]))).isSome) = _
  rw [hch, Option.getD_some, inT_none hB hf1, subs_el hB, hf2, fold_map, List.map_map]
  rfl
/-- entries and texts, each once, side by side -/
structure Side (l : List Ent) (m : List (Txt × Unit)) : Prop where
  n : l.length = m.length
  s : Srt m
  i : ∀ g, g ∈ l.map Ent.guid ↔ hasK g m = true
theorem Side.nil : Side [] [] := ⟨rfl, List.Pairwise.nil, fun g => by simp [hasK]⟩
theorem hasK_put {m : List (Txt × Unit)} {g k : Txt} (hs : Srt m) : hasK g (putK k () m) = true ↔ g = k ∨ hasK g m = true := by
  rw [hasK_get (srt_put hs), hasK_get hs, get_put hs]
  by_cases h : g = k
  · rw [if_pos h]; simp [h]
  · rw [if_neg h]; simp [h]
theorem putK_len2 {m : List (Txt × Unit)} {k : Txt} : (putK k () m).length = if hasK k m then m.length else m.length + 1 := by
  have hp := posK_le k m
  unfold putK
  split
  · rw [List.length_set]
  · simp only [List.length_append, List.length_take, List.length_cons, List.length_drop]; omega
theorem Side.add {l : List Ent} {m : List (Txt × Unit)} {e : Ent} (h : Side l m) (he : guidX e ≠ []) : Side (addX l e) (putK (guidX e) () m) := by
  have hiff : (guidX e = [] ∨ (l.any fun x => decide (x.guid = guidX e)) = true) ↔ hasK (guidX e) m = true := by
    rw [← h.i, List.any_eq_true, List.mem_map]
    constructor
    · rintro (h | ⟨x, hx, h⟩)
      · exact absurd h he
      · exact ⟨x, hx, by simpa using h⟩
    · rintro ⟨x, hx, h⟩
      exact .inr ⟨x, hx, by simpa using h⟩
  by_cases hk : hasK (guidX e) m = true
  · have e1 : addX l e = l := by unfold addX; rw [if_pos (hiff.2 hk)]
    rw [e1]
    refine ⟨by rw [putK_len2, if_pos hk, h.n], srt_put h.s, fun g => ?_⟩
    rw [hasK_put h.s, h.i]
    exact ⟨.inr, fun hh => hh.elim (fun e => by rw [e]; exact hk) id⟩
  · have e1 : addX l e = l ++ [{ e with guid := guidX e, num := l.length }] := by unfold addX; rw [if_neg (fun hh => hk (hiff.1 hh))]
    rw [e1]
    refine ⟨by rw [putK_len2, if_neg hk, List.length_append, h.n]; rfl, srt_put h.s, fun g => ?_⟩
    rw [hasK_put h.s, ← h.i, List.map_append, List.mem_append]
    simp only [List.map_cons, List.map_nil, List.mem_singleton]
    exact or_comm
theorem Side.fold : ∀ {L : List Ent} {l : List Ent} {m : List (Txt × Unit)}, Side l m → (∀ e ∈ L, guidX e ≠ []) → Side (L.foldl addX l) ((L.map guidX).foldl (fun m s => putK s () m) m)
  | [], _, _, h, _ => h
  | e :: L, l, m, h, hL => by
    rw [List.foldl_cons, List.map_cons, List.foldl_cons]
    exact Side.fold (h.add (hL e (List.mem_cons_self ..))) fun d hd => hL d (List.mem_cons_of_mem _ hd)
end Go.Proofs.YtlflpbflpcmckaaGreatDoor
namespace Go.Proofs.YtlflpbflpcmckaaGreatDoor
open Go Go.Ez Go.RowKit Go.Lib
set_option linter.unusedSimpArgs false
set_option linter.unusedVariables false
/-- what is laid behind others is theirs, and a rest -/
theorem fold_pre {P : Ent → Prop} : ∀ {L l : List Ent}, (∀ e ∈ L, ∀ k : Int, P { e with guid := guidX e, num := k }) → ∃ R, L.foldl addX l = l ++ R ∧ ∀ e ∈ R, P e
  | [], l, _ => ⟨[], (List.append_nil l).symm, by simp⟩
  | c :: L, l, h => by
    obtain ⟨R, hR, hP⟩ := fold_pre (P := P) (L := L) (l := addX l c) fun e he => h e (List.mem_cons_of_mem _ he)
    rw [List.foldl_cons, hR]
    unfold addX
    split
    · exact ⟨R, rfl, hP⟩
    · exact ⟨_ :: R, by rw [List.append_assoc]; rfl, fun e he => by
        rcases List.mem_cons.1 he with rfl | he
        · exact h c (List.mem_cons_self ..) _
        · exact hP e he⟩
def gEs (ids : List Txt) : List XE := ids.map gItem
def lEs (more : List Txt) : List XE := more.map lItem
abbrev q1 : Txt := [60, 105, 116, 101, 109, 62, 60, 103, 117, 105, 100, 62]
abbrev q2 : Txt := [60, 47, 103, 117, 105, 100, 62, 60, 47, 105, 116, 101, 109, 62]
abbrev q3 : Txt := [60, 105, 116, 101, 109, 62, 60, 108, 105, 110, 107, 62]
abbrev q4 : Txt := [60, 47, 108, 105, 110, 107, 62, 60, 47, 105, 116, 101, 109, 62]
abbrev qO : Txt := [60, 114, 115, 115, 62, 60, 99, 104, 97, 110, 110, 101, 108, 62]
abbrev qC : Txt := [60, 47, 99, 104, 97, 110, 110, 101, 108, 62, 60, 47, 114, 115, 115, 62]
abbrev qX : Txt := [60, 105, 116, 101, 109, 62, 60, 116, 105, 116, 108, 101, 62, 120, 60, 47, 116, 105, 116, 108, 101, 62, 60, 47, 105, 116, 101, 109, 62]
theorem gItem_doc (g : Txt) : q1 ++ g ++ q2 = (gItem g).doc := by simp [gItem, nodeE, catD, leafE, opn, cls]
theorem lItem_doc (g : Txt) : q3 ++ g ++ q4 = (lItem g).doc := by simp [lItem, nodeE, catD, leafE, opn, cls]
theorem xItem_doc : qX = xItem.doc := by decide
theorem rssB_eq (Es : List XE) : qO ++ catD Es ++ qC = rssB Es := by
  unfold rssB nodeE
  simp [opn, cls]
theorem gItem_len {g : Txt} (h : g.length ≤ 100) : (gItem g).doc.length ≤ 130 := by
  rw [← gItem_doc]
  simp only [List.length_append, List.length_cons, List.length_nil]
  omega
theorem lItem_len {g : Txt} (h : g.length ≤ 100) : (lItem g).doc.length ≤ 130 := by
  rw [← lItem_doc]
  simp only [List.length_append, List.length_cons, List.length_nil]
  omega
theorem guidG {g : Txt} (h : pB g = true) : guidX (gEnt g) = g := by unfold guidX gEnt; rw [if_neg (pB_parts h).2.1]
theorem guidL {g : Txt} : guidX (lEnt g) = g := rfl
theorem long_g {e : Ent} {k : Int} (h : e.guid.length ≤ 100 ∧ e.title.length ≤ 100 ∧ e.link.length ≤ 100) : longE { e with guid := guidX e, num := k } = false := by
  unfold longE guidX
  refine decide_eq_false ?_
  dsimp only
  split <;> omega
/-- what both feeds are -/
theorem more_x {ids more : List Txt} (hi : ∀ g ∈ ids, pB g = true) (hm : ∀ g ∈ more, pB g = true) (h1 : ids.length ≤ 30) (h2 : more.length ≤ 30) (hl1 : (rssB (gEs ids)).length ≤ 20000) (hl2 : (rssB (gEs ids ++ [xItem] ++ lEs more)).length ≤ 20000) :
    ∃ F R, feedX (tokX (rssB (gEs ids))) = (([], F), 0) ∧ feedX (tokX (rssB (gEs ids ++ [xItem] ++ lEs more))) = (([], F ++ R), 0) ∧ F.length = (uniq ids).length ∧ (F ++ R).length = (uniq (ids ++ more)).length ∧ F.length ≤ 100 ∧ (F ++ R).length ≤ 100 ∧ (∀ e ∈ F ++ R, e.title = [] ∧ e.guid ∈ uniq (ids ++ more)) ∧ ∀ e ∈ R, e.link = e.guid := by
  have hgo : ∀ e ∈ gEs ids, e.Ok 2 [] := fun e he => by
    obtain ⟨g, hg, rfl⟩ := List.mem_map.1 he
    exact one_item (by decide) (hi g hg)
  have hlo : ∀ e ∈ lEs more, e.Ok 2 [] := fun e he => by
    obtain ⟨g, hg, rfl⟩ := List.mem_map.1 he
    exact one_item (by decide) (hm g hg)
  have hgn : ∀ e ∈ gEs ids, e.nm = tItem := fun e he => by
    obtain ⟨g, hg, rfl⟩ := List.mem_map.1 he; rfl
  have hao : ∀ e ∈ gEs ids ++ [xItem] ++ lEs more, e.Ok 2 [] := fun e he => by
    rcases List.mem_append.1 he with he | he
    · rcases List.mem_append.1 he with he | he
      · exact hgo e he
      · rw [List.mem_singleton.1 he]; exact xItem_ok
    · exact hlo e he
  have han : ∀ e ∈ gEs ids ++ [xItem] ++ lEs more, e.nm = tItem := fun e he => by
    rcases List.mem_append.1 he with he | he
    · rcases List.mem_append.1 he with he | he
      · exact hgn e he
      · rw [List.mem_singleton.1 he]; rfl
    · obtain ⟨g, hg, rfl⟩ := List.mem_map.1 he; rfl
  have hgm : (gEs ids).map (fun e => itemX (e.toks [])) = ids.map gEnt := by
    unfold gEs
    rw [List.map_map]
    exact List.map_congr_left fun g hg => gItem_x (hi g hg)
  have hlm : (lEs more).map (fun e => itemX (e.toks [])) = more.map lEnt := by
    unfold lEs
    rw [List.map_map]
    exact List.map_congr_left fun g hg => lItem_x (hm g hg)
  have eG : entsF ((gEs ids ++ [xItem] ++ lEs more).map fun e => itemX (e.toks [])) = (more.map lEnt).foldl addX (entsF (ids.map gEnt)) := by
    rw [List.map_append, List.map_append, hgm, hlm]
    unfold entsF
    rw [List.foldl_append, List.foldl_append]
    show (more.map lEnt).foldl addX (addX ((ids.map gEnt).foldl addX []) (itemX (xItem.toks []))) = _
    rw [xItem_x]
    have : addX ((ids.map gEnt).foldl addX []) xEnt = (ids.map gEnt).foldl addX [] := by unfold addX; rw [if_pos (.inl rfl)]
    rw [this]
  obtain ⟨R, hR, hRP⟩ := fold_pre (P := fun e => e.title = [] ∧ e.link = e.guid) (L := more.map lEnt) (l := entsF (ids.map gEnt)) fun e he k => by
    obtain ⟨g, hg, rfl⟩ := List.mem_map.1 he
    exact ⟨rfl, rfl⟩
  have hFt : ∀ e ∈ entsF (ids.map gEnt), e.title = [] := by
    unfold entsF
    refine fold_P (P := fun e => e.title = []) (by simp) fun e he k => ?_
    obtain ⟨g, hg, rfl⟩ := List.mem_map.1 he
    rfl
  have hs1 : Side (entsF (ids.map gEnt)) (uniqM ids) := by
    have := Side.fold (L := ids.map gEnt) .nil fun e he => by
      obtain ⟨g, hg, rfl⟩ := List.mem_map.1 he
      rw [guidG (hi g hg)]; exact (pB_parts (hi g hg)).2.1
    have e : (ids.map gEnt).map guidX = ids := by
      rw [List.map_map]
      refine Eq.trans (List.map_congr_left fun g hg => ?_) (List.map_id ids)
      exact guidG (hi g hg)
    rw [e] at this
    exact this
  have hs2 : Side (entsF (ids.map gEnt) ++ R) (uniqM (ids ++ more)) := by
    have := hs1.fold (L := more.map lEnt) fun e he => by
      obtain ⟨g, hg, rfl⟩ := List.mem_map.1 he
      rw [guidL]; exact (pB_parts (hm g hg)).2.1
    have e : (more.map lEnt).map guidX = more := by
      rw [List.map_map]
      exact Eq.trans (List.map_congr_left fun g hg => guidL) (List.map_id more)
    rw [e, hR] at this
    have e2 : uniqM (ids ++ more) = more.foldl (fun m s => putK s () m) (uniqM ids) := by unfold uniqM; rw [List.foldl_append]
    rw [e2]
    exact this
  have hn1 : (entsF (ids.map gEnt)).length ≤ 30 := by
    have := ents_len (ids.map gEnt)
    rw [List.length_map] at this; omega
  have hn2 : (entsF (ids.map gEnt) ++ R).length ≤ 60 := by
    have := uniqM_len (ids ++ more)
    rw [hs2.n]
    rw [List.length_append] at this; omega
  have lg1 : ∀ e ∈ entsF (ids.map gEnt), longE e = false := by
    unfold entsF
    refine fold_P (P := fun e => longE e = false) (by simp) fun e he k => ?_
    obtain ⟨g, hg, rfl⟩ := List.mem_map.1 he
    exact long_g ⟨(pB_parts (hi g hg)).2.2, Nat.zero_le _, Nat.zero_le _⟩
  have lg2 : ∀ e ∈ entsF (ids.map gEnt) ++ R, longE e = false := by
    rw [← hR]
    refine fold_P (P := fun e => longE e = false) lg1 fun e he k => ?_
    obtain ⟨g, hg, rfl⟩ := List.mem_map.1 he
    exact long_g ⟨Nat.zero_le _, Nat.zero_le _, (pB_parts (hm g hg)).2.2⟩
  refine ⟨entsF (ids.map gEnt), R, ?_, ?_, ?_, ?_, by omega, by omega, fun e he => ⟨?_, ?_⟩, fun e he => (hRP e he).2⟩
  · rw [rssB_tok hgo hl1]
    refine feed_of rfl ?_ (by omega) (by decide) lg1
    show readX (elT tRss [] [] _) = _
    rw [readB hgo hgn, hgm]
  · rw [rssB_tok hao hl2]
    refine feed_of rfl ?_ (by omega) (by decide) lg2
    show readX (elT tRss [] [] _) = _
    rw [readB hao han, eG, hR]
  · rw [hs1.n]; unfold uniq; rw [List.length_map]
  · rw [hs2.n]; unfold uniq; rw [List.length_map]
  · rcases List.mem_append.1 he with he | he
    · exact hFt e he
    · exact (hRP e he).1
  · have := (hs2.i e.guid).1 (List.mem_map.2 ⟨e, he, rfl⟩)
    obtain ⟨v, hv⟩ := hasK_spec.1 this
    unfold uniq
    exact List.mem_map.2 ⟨_, List.mem_of_getElem? hv, rfl⟩
section
variable {w0 W W' : World} {G : Nat → Prop} {l R R1 R2 : List As} {RR : Value → World → Prop} {s u : Txt} {v va vb vi vn f : Value} {L M : List Ent} {ids more : List Txt} {x y : Ent} {i n b : Nat}
theorem copyT_spec (hs : Sl w0 1 v ids.length (ids.map strV)) (hl : ids.length ≤ 1000000) (h : St w0 G0 l W) (k : ∀ v' W', Cel1 v' → St w0 G0 (Ky v' (Ow 9 1 ids.length (ids.map strV)) :: l) W' → RR v' W') : CallF Tryz.prog 12 #[v] W RR := by
  refine sh12_calls ?_
  unfold sh12
  refine h.lit fun u1 W o1 h => ?_
  refine h.app (v := u1) (hs.below h.low) (fun c hc => by obtain ⟨x, _, rfl⟩ := List.mem_map.1 hc; rfl) (by unfold maxLen; omega) (by omega) fun va' W o' h _ => ?_
  rw [List.nil_append, Nat.zero_add] at h
  exact k _ W o' h
theorem fmore_law (hT : XTabs w0) (hi : Sl w0 1 vi ids.length (ids.map strV)) (hn : Sl w0 1 vn more.length (more.map strV)) (hli : ∀ s ∈ ids, s.length ≤ 9223372036854775807) (hln : ∀ s ∈ more, s.length ≤ 9223372036854775807)
    (h : St w0 G0 [] W) (k : ∀ W', St w0 G0 [] W' → RR (.bool true) W') : CallF Tryz.prog 3 #[vi, vn] W RR := by
  refine sh3_calls ?_
  unfold sh3
  have out : ∀ {l : List As} {W : World}, St w0 G0 l W → CallF Tryz.prog 8 #[] W fun t w => RR t w := fun {l W} h => ffirst_spec hT h fun W h => k W h.to
  refine ffirst_spec hT h fun W h => a_not (iff' ?_)
  refine x_lenS hi (a_gtr (ifd (fun _ => out h) fun h30 => ?_))
  refine x_lenS hn (a_gtr (ifd (fun _ => out h) fun h31 => ?_))
  refine lpx (α := Nat) (fun i => [strV (qO ++ catD (gEs (ids.take i))), nV .i64 i]) (fun i W' => i ≤ ids.length ∧ (∀ g ∈ ids.take i, pB g = true) ∧ W' = W) (fun i => ids.length - i) 0 (fun _ => rfl) (by simp [gEs, catD]) ⟨Nat.zero_le _, by simp, rfl⟩ ?_
  rintro next i W1 hnext ⟨p1, p2, rfl⟩
  refine app2 ?_
  have glen : (catD (gEs (ids.take i))).length ≤ 30 * 130 := by
    refine Nat.le_trans (catD_len (M := 130) fun e he => ?_) ?_
    · obtain ⟨g, hg, rfl⟩ := List.mem_map.1 he
      exact gItem_len (pB_parts (p2 g hg)).2.2
    · refine Nat.mul_le_mul_right _ ?_
      unfold gEs
      rw [List.length_map, List.length_take]; omega
  refine x_lenS hi (a_lss (ifd (fun hc => ?_) fun hc => ?_))
  · have hil : i < ids.length := by omega
    have ga : ids[i]? = some ids[i] := List.getElem?_eq_getElem hil
    generalize ids[i] = g at ga
    have ca : (ids.map strV)[i]? = some (strV g) := by rw [List.getElem?_map, ga]; rfl
    refine x_at (hi.below h.low) ca ?_
    refine pl_spec (hli g (List.mem_of_getElem? ga)) (a_not (ifnb (fun _ => out h) fun hpg => ?_))
    have hgl := (pB_parts hpg).2.2
    refine x_at (hi.below h.low) ca ?_
    refine a_cat (l := q1) (m := g) (by simp only [List.length_cons, List.length_nil]; omega) (a_cat (m := q2) (by simp only [List.length_append, List.length_cons, List.length_nil]; omega) ?_)
    refine a_cat (l := qO ++ catD (gEs (ids.take i))) (by simp only [List.length_append, List.length_cons, List.length_nil]; omega) ?_
    refine a_add64 (by omega) (by omega) ⟨rfl, rfl, rfl, ?_⟩
    have tk : ids.take (i + 1) = ids.take i ++ [g] := by rw [List.take_add_one, ga]; rfl
    have e1 : qO ++ catD (gEs (ids.take i)) ++ (q1 ++ g ++ q2) = qO ++ catD (gEs (ids.take (i + 1))) := by
      rw [gItem_doc, tk]
      unfold gEs
      rw [List.map_append, List.map_singleton, catD_snoc, List.append_assoc]
    rw [show ((i : Int) + 1) = ((i + 1 : Nat) : Int) by push_cast; rfl, e1]
    refine hnext (i + 1) _ (by omega) ⟨by omega, fun d hd => ?_, rfl⟩
    rw [tk] at hd
    rcases List.mem_append.1 hd with hd | hd
    · exact p2 d hd
    · rw [List.mem_singleton.1 hd]; exact hpg
  have hil : i = ids.length := by omega
  subst hil
  clear hnext hc p1
  rw [List.take_length] at p2 glen ⊢
  refine lpx (α := Nat) (fun i => [strV (catD (lEs (more.take i))), nV .i64 i]) (fun i W' => i ≤ more.length ∧ (∀ g ∈ more.take i, pB g = true) ∧ W' = W1) (fun i => more.length - i) 0 (fun _ => rfl) (by simp [lEs, catD]) ⟨Nat.zero_le _, by simp, rfl⟩ ?_
  rintro next i W1 hnext ⟨r1, r2, rfl⟩
  refine app2 ?_
  have llen : (catD (lEs (more.take i))).length ≤ 30 * 130 := by
    refine Nat.le_trans (catD_len (M := 130) fun e he => ?_) ?_
    · obtain ⟨g, hg, rfl⟩ := List.mem_map.1 he
      exact lItem_len (pB_parts (r2 g hg)).2.2
    · refine Nat.mul_le_mul_right _ ?_
      unfold lEs
      rw [List.length_map, List.length_take]; omega
  refine x_lenS hn (a_lss (ifd (fun hc => ?_) fun hc => ?_))
  · have hil : i < more.length := by omega
    have ga : more[i]? = some more[i] := List.getElem?_eq_getElem hil
    generalize more[i] = g at ga
    have ca : (more.map strV)[i]? = some (strV g) := by rw [List.getElem?_map, ga]; rfl
    refine x_at (hn.below h.low) ca ?_
    refine pl_spec (hln g (List.mem_of_getElem? ga)) (a_not (ifnb (fun _ => out h) fun hpg => ?_))
    have hgl := (pB_parts hpg).2.2
    refine x_at (hn.below h.low) ca ?_
    refine a_cat (l := q3) (m := g) (by simp only [List.length_cons, List.length_nil]; omega) (a_cat (m := q4) (by simp only [List.length_append, List.length_cons, List.length_nil]; omega) ?_)
    refine a_cat (l := catD (lEs (more.take i))) (by simp only [List.length_append, List.length_cons, List.length_nil]; omega) ?_
    refine a_add64 (by omega) (by omega) ⟨rfl, rfl, rfl, ?_⟩
    have tk : more.take (i + 1) = more.take i ++ [g] := by rw [List.take_add_one, ga]; rfl
    have e1 : catD (lEs (more.take i)) ++ (q3 ++ g ++ q4) = catD (lEs (more.take (i + 1))) := by
      rw [lItem_doc, tk]
      unfold lEs
      rw [List.map_append, List.map_singleton, catD_snoc]
    rw [show ((i : Int) + 1) = ((i + 1 : Nat) : Int) by push_cast; rfl, e1]
    refine hnext (i + 1) _ (by omega) ⟨by omega, fun d hd => ?_, rfl⟩
    rw [tk] at hd
    rcases List.mem_append.1 hd with hd | hd
    · exact r2 d hd
    · rw [List.mem_singleton.1 hd]; exact hpg
  have hil : i = more.length := by omega
  subst hil
  clear hnext hc r1
  rw [List.take_length] at r2 llen ⊢
  refine x_len (x_len (a_add64 (by simp only [List.length_append, List.length_cons, List.length_nil]; omega) (by simp only [List.length_append, List.length_cons, List.length_nil]; omega) (a_gtr (ifd (fun _ => out h) fun hsz => ?_))))
  refine a_cat (m := qC) (by simp only [List.length_append, List.length_cons, List.length_nil]; omega) ?_
  have eD1 := rssB_eq (gEs ids)
  have eD2 : qO ++ catD (gEs ids) ++ qX ++ catD (lEs more) ++ qC = rssB (gEs ids ++ [xItem] ++ lEs more) := by
    rw [← rssB_eq]
    unfold catD
    rw [xItem_doc]
    simp
  have hs1 : (rssB (gEs ids)).length ≤ 20000 := by rw [← eD1]; simp only [List.length_append, List.length_cons, List.length_nil]; omega
  have hs2 : (rssB (gEs ids ++ [xItem] ++ lEs more)).length ≤ 20000 := by rw [← eD2]; simp only [List.length_append, List.length_cons, List.length_nil]; omega
  obtain ⟨F, R, fr, fa, hF1, hF2, hF3, hF4, hall1, hR1⟩ := more_x p2 r2 (by omega) (by omega) hs1 hs2
  rw [eD1]
  generalize rssB (gEs ids) = D1 at *
  generalize rssB (gEs ids ++ [xItem] ++ lEs more) = D2 at *
  refine h.ofStr fun v0 W o0 h => ?_
  refine fparse_spec (xtabs_at hT h) (s := D1) (h.rsl (v := v0)) (St.start W) fun va W ova h' => a_ext0 (a_ext1 ?_)
  replace h := h.frame1 h'
  clear h'
  rw [fr] at h ⊢
  refine h.allocS fun t9 W h => ?_
  refine h.storeS (cs' := [strV [], va]) fun W h => ?_
  replace h : St w0 G0 (Ky t9 (Fd2 [] va) :: Ky va (EnS F) :: []) W := h.to
  refine a_cat (m := qX) (by simp only [List.length_append, List.length_cons, List.length_nil]; omega) (a_cat (m := catD (lEs more)) (by simp only [List.length_append, List.length_cons, List.length_nil]; omega) (a_cat (m := qC) (by simp only [List.length_append, List.length_cons, List.length_nil]; omega) ?_))
  rw [eD2]
  refine h.ofStr fun v1 W o1 h => ?_
  refine fparse_spec (xtabs_at hT h) (s := D2) (h.rsl (v := v1)) (St.start W) fun vb W ovb h' => a_ext0 (a_ext1 ?_)
  replace h := h.frame1 h'
  clear h'
  rw [fa] at h ⊢
  generalize hGs : F ++ R = Gs at *
  have hget : ∀ i (e : Ent), Gs[i]? = some e → (i < F.length → F[i]? = some e) ∧ (F.length ≤ i → e.link = e.guid) := fun i e he => by
    rw [← hGs] at he
    refine ⟨fun hi => ?_, fun hi => ?_⟩
    · rw [List.getElem?_append_left hi] at he; exact he
    · rw [List.getElem?_append_right hi] at he; exact hR1 e (List.mem_of_getElem? he)
  have hFG : F.length ≤ Gs.length := by rw [← hGs, List.length_append]; omega
  refine h.allocS fun t11 W h => ?_
  refine h.storeS (cs' := [strV [], vb]) fun W h => ?_
  replace h : St w0 G0 (Ky t11 (Fd2 [] vb) :: Ky vb (EnS Gs) :: Ky t9 (Fd2 [] va) :: Ky va (EnS F) :: []) W := h.to
  refine copyT_spec hi (by omega) h fun v2 W o2 h => ?_
  refine h.app (v := v2) (hn.below h.low) (fun c hc => by obtain ⟨x, _, rfl⟩ := List.mem_map.1 hc; rfl) (by unfold maxLen; omega) (by omega) fun v3 W o3 h _ => ?_
  rw [← List.map_append] at h
  refine unique_spec (ls := ids ++ more) (h.osl (v := v3)) (by rw [List.length_append]; omega) fun v4 Wb hu4 hb4 => ?_
  replace h : St w0 G0 (Ky t11 (Fd2 [] vb) :: Ky vb (EnS Gs) :: Ky t9 (Fd2 [] va) :: Ky va (EnS F) :: []) Wb := (h.ext hb4).to
  have hall : Sl Wb 1 v4 (uniq (ids ++ more)).length ((uniq (ids ++ more)).map strV) := Sl.of_own hu4
  clear hu4 hb4
  -- the world in which all the texts stand
  have h0 := h
  clear h
  have h := St.start Wb
  have hW5 : ∀ w, St Wb G0 [] w → Below Wb.heap.size Wb w := fun w h => h.low
  have hT1 := xtabs_at hT h0
  have ra : Rec Wb t9 27 [strV [], va] := h0.rc
  have rb : Rec Wb t11 27 [strV [], vb] := h0.rc
  have eF : Ens Wb va F := h0.osl (v := va)
  have eG : Ens Wb vb Gs := h0.osl (v := vb)
  have hi0 := hi.below h0.low
  refine ⟨St Wb G0 [], h.drew, ?_⟩
  replace h := h.drew
  have SA : ∀ w, St Wb G0 [] w → Rec w t9 27 [strV [], va] := fun w h => ra.below h.low
  have SB : ∀ w, St Wb G0 [] w → Rec w t11 27 [strV [], vb] := fun w h => rb.below h.low
  refine s_neq (ifd_neg (fun h => h rfl) (s_neq (ifd_neg (fun h => h rfl) ?_)))
  refine a_fld0 (s_ld (t := 27) (cs := [strV [], va]) SA rfl (x_lenSs eF ?_))
  refine unique_spec (ls := ids) (hi0.below h.low) (by omega) fun v5 W6 hu5 hb5 => ?_
  replace h := h.ext hb5
  refine ⟨h, ?_⟩
  refine x_lenSs (Sl.of_own hu5) (s_neq (ifd_neg (by omega) ?_))
  refine a_fld0 (s_ld (t := 27) (cs := [strV [], vb]) SB rfl (x_lenSs eG ?_))
  refine x_lenSs hall (s_neq (ifd_neg (by omega) ?_))
  refine a_fld0 (s_ld (t := 27) (cs := [strV [], va]) SA rfl (x_lenSs eF ?_))
  refine a_fld0 (s_ld (t := 27) (cs := [strV [], vb]) SB rfl (x_lenSs eG ?_))
  refine a_gtr (ifd_neg (by omega) ?_)
  clear hu5 hb5
  refine lpx (α := Nat) (fun i => [nV .i64 i]) (fun i W' => i ≤ Gs.length ∧ St Wb G0 [] W') (fun i => Gs.length - i) 0 (fun _ => rfl) rfl ⟨Nat.zero_le _, h⟩ ?_
  clear h
  rintro next i W7 hnext ⟨p1, h⟩
  refine app1 ?_
  have rb7 := SB _ h
  refine a_fld0 (w_recF Tryz.isAgg25 rb7 rfl ?_)
  refine x_lenS eG (a_lss (ifd (fun hc => ?_) fun hc => ?_))
  · have hil : i < Gs.length := by omega
    have ga : Gs[i]? = some Gs[i] := List.getElem?_eq_getElem hil
    generalize Gs[i] = e at ga
    obtain ⟨htit, hin⟩ := hall1 e (List.mem_of_getElem? ga)
    obtain ⟨hg1, hg2⟩ := hget i e ga
    refine a_fld0 (w_recF Tryz.isAgg25 rb7 rfl ?_)
    refine x_rcl entC_len (eG.below h.low) rfl ga ?_
    refine h.allocS fun t15 W h => ?_
    refine h.storeS (cs' := entC e) fun W h => ?_
    replace h : St Wb G0 (Ky t15 (EnB e) :: []) W := h
    refine jni (fun vs W' => vs = [.pointer (some ⟨t9, 0, none⟩), .pointer (some ⟨t11, 0, none⟩), v4, nV .i64 i] ∧ St Wb G0 [] W') ?_ ?_
    · rintro vs W _ ⟨rfl, h⟩
      refine app4 (a_add64 (by omega) (by omega) ⟨rfl, rfl, rfl, ?_⟩)
      rw [show ((i : Int) + 1) = ((i + 1 : Nat) : Int) by push_cast; rfl]
      exact hnext (i + 1) W (by omega) ⟨by omega, h⟩
    refine ⟨St Wb G0 (Ky t15 (EnB e) :: []), h.drew, ?_⟩
    replace h := h.drew
    have hW5 : ∀ w, St Wb G0 (Ky t15 (EnB e) :: []) w → Below Wb.heap.size Wb w := fun w h => h.low
    have SA : ∀ w, St Wb G0 (Ky t15 (EnB e) :: []) w → Rec w t9 27 [strV [], va] := fun w h => ra.below h.low
    refine a_fld0 (s_ld (t := 27) (cs := [strV [], va]) SA rfl (x_lenSs eF (a_lss (ifd (fun hlt => ?_) fun hlt => ?_))))
    · have gf := hg1 (by omega)
      refine ss_loadS (b := t15) (t := 34) (cs := entC e) ?_
      refine a_fld0 (s_ld (t := 27) (cs := [strV [], va]) SA rfl ?_)
      refine x_srcl entC_len (eF.below h.low) (fun w hw => eF.below hw.low) rfl gf ?_
      refine entryEq_spec h fun W h => ⟨h, ?_⟩
      rw [decide_eq_true rfl]
      refine a_not (iff' ?_)
      refine a_fld0 (s_ld (t := 27) (cs := [strV [], va]) SA rfl (x_lenSs eF (a_geq (ifd_neg (by omega) ?_))))
      refine a_fld0 (ss_load (b := t15) (t := 34) (cs := entC e) (j := 2) (s_neqL (b := []) (ifd_neg (fun h => h htit) ?_)))
      refine a_fld0 (ss_load (b := t15) (t := 34) (cs := entC e) (j := 1) ?_)
      refine lhas_spec (a := uniq (ids ++ more)) (s := e.guid) (hall.below (hW5 _ h)) (by omega) ⟨h, ?_⟩
      rw [decide_eq_true hin]
      exact a_not (iff' ⟨rfl, h.to⟩)
    · refine a_fld0 (s_ld (t := 27) (cs := [strV [], va]) SA rfl (x_lenSs eF (a_geq (ifd_pos (by omega) ?_))))
      refine a_fld0 (ss_load (b := t15) (t := 34) (cs := entC e) (j := 3) ?_)
      refine a_fld0 (ss_load (b := t15) (t := 34) (cs := entC e) (j := 1) (s_neqL (ifd_neg (fun h => h (hg2 (by omega))) ?_)))
      refine a_fld0 (ss_load (b := t15) (t := 34) (cs := entC e) (j := 2) (s_neqL (b := []) (ifd_neg (fun h => h htit) ?_)))
      refine a_fld0 (ss_load (b := t15) (t := 34) (cs := entC e) (j := 1) ?_)
      refine lhas_spec (a := uniq (ids ++ more)) (s := e.guid) (hall.below (hW5 _ h)) (by omega) ⟨h, ?_⟩
      rw [decide_eq_true hin]
      exact a_not (iff' ⟨rfl, h.to⟩)
  · refine ffirst_spec hT1 h fun W h => ?_
    exact k W (h0.ext h.low).to
end
end Go.Proofs.YtlflpbflpcmckaaGreatDoor
