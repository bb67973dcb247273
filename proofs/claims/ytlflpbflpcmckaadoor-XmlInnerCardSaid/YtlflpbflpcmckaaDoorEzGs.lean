/-
  EZ: Go's own maps of texts to texts; a pool of such maps that are kept and never turned.
-/
import Derived.Test.YtlflpbflpcmckaaDoorEzKq
import Derived.Test.YtlflpbflpcmckaaDoorXmP
import Derived.Maps.RangeRun
namespace Go.Ez
open Go Go.Proofs Go.RowKit
open Go.ChangeMaps (setBlock)
set_option linter.unusedSimpArgs false
set_option linter.unusedVariables false
abbrev Fm := List (Txt × Txt)
abbrev Zs := Unit
def PlIn (_ : Zs) (v : Value) (x : Txt) : Prop := v = strV x
abbrev getS := XRd.lookS
abbrev putM (k v : Txt) (m : Fm) : Fm := XRd.putS m k v
def gt (k : Txt) (m : Fm) : Txt := (getS k m).getD []
theorem getS_put {m : Fm} {j k v : Txt} : getS j (putM k v m) = if j = k then some v else getS j m := by
  show XRd.lookS j (XRd.putS m k v) = _
  unfold XRd.putS
  conv => lhs; unfold XRd.lookS
  simp only
  by_cases h : j = k
  · rw [if_pos h.symm, if_pos h]
  · rw [if_neg (fun e => h e.symm), if_neg h]
    induction m with
    | nil => rfl
    | cons p m ih =>
      rw [List.filter_cons]
      by_cases hp : p.1 = k
      · have : (decide (p.1 ≠ k)) = false := by simp [hp]
        rw [this]
        simp only [Bool.false_eq_true, if_false]
        rw [ih]
        show _ = XRd.lookS j (p :: m)
        conv => rhs; unfold XRd.lookS
        rw [if_neg (fun e => h (e.symm.trans hp))]
      · have : (decide (p.1 ≠ k)) = true := by simp [hp]
        rw [this]
        simp only [if_true]
        unfold XRd.lookS
        rw [ih]
/-! ### maps -/
abbrev Ge := Nat × Txt × Value × Txt
def Ge.ent (e : Ge) : MapEntry := { key := strV e.2.1, val := e.2.2.1, born := e.1 }
/-- entries that tell m -/
structure GmOk (zs : Zs) (m : Fm) (E : List Ge) (clock : Nat) : Prop where
  keys : E.Pairwise fun a b => a.2.1 ≠ b.2.1
  mem : ∀ k x, (∃ e ∈ E, e.2.1 = k ∧ e.2.2.2 = x) ↔ getS k m = some x
  born : E.Pairwise fun a b => a.1 ≠ b.1
  old : ∀ e ∈ E, e.1 < clock
  kept : ∀ e ∈ E, PlIn zs e.2.2.1 e.2.2.2
def mO (E : List Ge) (clock : Nat) : Obj := .map (E.map Ge.ent).toArray clock
/-- block b is a map that tells m -/
def Mg (zs : Zs) (m : Fm) (b : Nat) : As := As.ex fun p : List Ge × Nat => As.all (GmOk zs m p.1 p.2) [Ky b (Ob (mO p.1 p.2))]
/-- where a key stands -/
def findE (k : Txt) : List Ge → Nat → Option (Nat × Value)
  | [], _ => none
  | e :: E, i => if k = e.2.1 then some (i, e.2.2.1) else findE k E (i + 1)
theorem findNow_E (k : Txt) : ∀ (E : List Ge) (i : Nat), Instr.findNow .string (strV k) (E.map Ge.ent) i = some (findE k E i)
  | [], _ => rfl
  | e :: E, i => by
    have hs : Instr.sameNow .string (strV k) (strV e.2.1) = some (decide (k = e.2.1)) := by
      show some ((⟨k.toArray⟩ : ByteArray) == ⟨e.2.1.toArray⟩) = _
      congr 1
      rw [Bool.eq_iff_iff, MapKept.bytes_beq, decide_eq_true_iff]
      exact strL_inj
    show (match Instr.sameNow .string (strV k) (strV e.2.1) with | some true => _ | some false => _ | none => _) = _
    rw [hs]
    unfold findE
    by_cases hk : k = e.2.1
    · rw [if_pos hk]; simp [hk, Ge.ent]
    · rw [if_neg hk]; simp [hk]; exact findNow_E k E (i + 1)
theorem findE_some {k : Txt} {v : Value} : ∀ {E : List Ge} {i j : Nat}, findE k E i = some (j, v) → ∃ q e, j = i + q ∧ E[q]? = some e ∧ e.2.1 = k ∧ e.2.2.1 = v
  | [], _, _, h => by cases h
  | e :: E, i, j, h => by
    unfold findE at h
    split at h
    · rename_i hk
      cases h
      exact ⟨0, e, rfl, rfl, hk.symm, rfl⟩
    · obtain ⟨q, e', h1, h2, h3⟩ := findE_some h
      exact ⟨q + 1, e', by omega, by simpa using h2, h3⟩
theorem findE_none {k : Txt} : ∀ {E : List Ge} {i : Nat}, findE k E i = none → ∀ e ∈ E, e.2.1 ≠ k
  | [], _, _, _, he => by cases he
  | e :: E, i, h, e', he => by
    unfold findE at h
    split at h
    · cases h
    · rename_i hk
      rcases List.mem_cons.1 he with rfl | he
      · exact fun h => hk h.symm
      · exact findE_none h e' he
section
variable {P : Program} {w0 W : World} {G : Nat → Prop} {l R : List As} {zs zs' : Zs} {m : Fm} {b : Nat} {t kt et : TypeId} {KW : Value → World → Prop} {KU : World → Prop} {K : Value → Prop}
theorem St.openG [i : Has l b (Mg zs m) R] (h : St w0 G l W) : ∃ E c, GmOk zs m E c ∧ St w0 G (Ky b (Ob (mO E c)) :: R) W := by
  have h1 : St w0 G (Mg zs m b :: R) W := h.find (k := b) (X := Mg zs m)
  obtain ⟨⟨E, c⟩, h2⟩ := h1.openE
  obtain ⟨hv, h3⟩ := h2.open1
  exact ⟨E, c, hv, h3⟩
theorem St.shutG {E : List Ge} {c : Nat} [i : Has l b (Ob (mO E c)) R] (h : St w0 G l W) (hg : GmOk zs m E c) : St w0 G (Ky b (Mg zs m) :: R) W :=
  St.shutE (f := fun p : List Ge × Nat => As.all (GmOk zs m p.1 p.2) [Ky b (Ob (mO p.1 p.2))]) (E, c) (St.shut1 hg (h.find (k := b) (X := Ob (mO E c))))
theorem run_findKey (hk : P.underlying kt = some .string) (k : Txt) (E : List Ge) : (Instr.findKey kt (strV k) (E.map Ge.ent)).run P W = .ok (findE k E 0) W := by
  have : (Instr.findKey kt (strV k) (E.map Ge.ent)) = (do match Instr.findNow (← underlying kt) (strV k) (E.map Ge.ent) 0 with | some r => pure r | none => Instr.findAsking kt (strV k) (E.map Ge.ent)) := rfl
  rw [this]
  simp only [Sem.run_bind, run_underlying hk, Result.andThen, findNow_E]
  rfl
theorem run_checkKey (hk : P.underlying kt = some .string) (k : Txt) (e : Bool) : (Instr.checkKey e 10000 kt (strV k)).run P W = .ok () W := by
  exact MapKept.run_checkKey hk (by simp [MapKept.IsKey]) e 9999
theorem GmOk.found {E : List Ge} {c : Nat} (hg : GmOk zs m E c) (k : Txt) : (findE k E 0 = none ∧ getS k m = none) ∨ ∃ i e, findE k E 0 = some (i, e.2.2.1) ∧ E[i]? = some e ∧ e.2.1 = k ∧ getS k m = some e.2.2.2 ∧ PlIn zs e.2.2.1 e.2.2.2 := by
  cases hf : findE k E 0 with
  | none =>
    refine .inl ⟨rfl, ?_⟩
    cases hx : getS k m with
    | none => rfl
    | some x =>
      obtain ⟨e, he, h1, _⟩ := (hg.mem k x).2 hx
      exact absurd h1 (findE_none hf e he)
  | some p =>
    obtain ⟨j, v⟩ := p
    obtain ⟨q, e, h1, h2, h3, h4⟩ := findE_some hf
    have hm := List.mem_of_getElem? h2
    refine .inr ⟨q, e, by rw [h1, Nat.zero_add, h4], h2, h3, (hg.mem k _).1 ⟨e, hm, h3, rfl⟩, hg.kept e hm⟩
theorem mapOb [i : Has l b (Mg zs m) R] (h : St w0 G l W) : ∃ E c, GmOk zs m E c ∧ W.heap[b]? = some (mO E c) := by
  obtain ⟨E, c, hg, h⟩ := h.openG (b := b)
  exact ⟨E, c, hg, h.ob⟩
theorem run_look {E : List Ge} {c : Nat} {k : Txt} {ok : Bool} [U : Und P t (.map kt et)] [U1 : Und P kt .string] [T : Ty1 P et (.string ⟨#[]⟩)] (hg : GmOk zs m E c) (hb : W.heap[b]? = some (mO E c)) :
    ∃ v, PlIn zs v (gt k m) ∧ (Instr.lookup t (.map (some b)) (strV k) ok).run P W = .ok (if ok then .tuple #[v, .bool (getS k m).isSome] else v) W := by
  have hgo : (getObj b).run P W = .ok (mO E c) W := MapKept.run_getObj_map hb
  rcases hg.found k with ⟨h1, h2⟩ | ⟨i, e, h1, _, _, h2, h3⟩
  · refine ⟨.string ⟨#[]⟩, by unfold gt; rw [h2]; rfl, ?_⟩
    simp only [Instr.lookup, Sem.run_bind, run_underlying U.eq, Result.andThen, hgo, mO, Sem.run_pure, run_checkKey U1.eq, List.toList_toArray, run_findKey U1.eq, h1, T.zero, h2]
    rfl
  · refine ⟨e.2.2.1, by unfold gt; rw [h2]; exact h3, ?_⟩
    simp only [Instr.lookup, Sem.run_bind, run_underlying U.eq, Result.andThen, hgo, mO, Sem.run_pure, run_checkKey U1.eq, List.toList_toArray, run_findKey U1.eq, h1, h2]
    rfl
theorem St.look {k : Txt} [i : Has l b (Mg zs m) R] [U : Und P t (.map kt et)] [U1 : Und P kt .string] [T : Ty1 P et (.string ⟨#[]⟩)] (h : St w0 G l W) (kk : ∀ v, PlIn zs v (gt k m) → KW v W) : RunV P (Instr.lookup t (.map (some b)) (strV k) false) W KW := by
  obtain ⟨E, c, hg, hb⟩ := mapOb (b := b) h
  obtain ⟨v, h1, h2⟩ := run_look (P := P) (t := t) (kt := kt) (et := et) (k := k) (ok := false) hg hb
  exact .of h2 (kk v h1)
theorem St.look2 {k : Txt} [i : Has l b (Mg zs m) R] [U : Und P t (.map kt et)] [U1 : Und P kt .string] [T : Ty1 P et (.string ⟨#[]⟩)] (h : St w0 G l W) (kk : ∀ v, PlIn zs v (gt k m) → KW (.tuple #[v, .bool (getS k m).isSome]) W) : RunV P (Instr.lookup t (.map (some b)) (strV k) true) W KW := by
  obtain ⟨E, c, hg, hb⟩ := mapOb (b := b) h
  obtain ⟨v, h1, h2⟩ := run_look (P := P) (t := t) (kt := kt) (et := et) (k := k) (ok := true) hg hb
  exact .of h2 (kk v h1)
/-- m[k] = v -/
theorem St.mapPut {k x : Txt} {v : Value} [i : Has l b (Mg zs m) R] [U : Und P t (.map kt et)] [U1 : Und P kt .string] (h : St w0 G l W) (hv : PlIn zs v x) (kk : ∀ W', St w0 G (Ky b (Mg zs (putM k x m)) :: R) W' → KU W') : RunU P (Instr.mapUpdate t (.map (some b)) (strV k) v) W KU := by
  obtain ⟨E, c, hg, h⟩ := h.openG (b := b)
  have hb := h.ob (b := b) (o := mO E c)
  have hgo : (getObj b).run P W = .ok (mO E c) W := MapKept.run_getObj_map hb
  rcases hg.found k with ⟨h1, h2⟩ | ⟨i, e, h1, hi, h3, h2, _⟩
  · have hn := findE_none h1
    refine .of (w' := W.putObj b (mO (E ++ [(c, k, v, x)]) (c + 1))) ?_ (kk _ (St.shutG (h.putO (b := b) (o := mO E c) _) ⟨?_, ?_, ?_, ?_, ?_⟩))
    · have e1 : (E.map Ge.ent).toArray.push { key := strV k, val := v, born := c } = ((E ++ [(c, k, v, x)]).map Ge.ent).toArray := by simp [Ge.ent]
      simp only [Instr.mapUpdate, Sem.run_bind, run_underlying U.eq, Result.andThen, hgo, mO, Sem.run_pure, run_checkKey U1.eq, List.toList_toArray, run_findKey U1.eq, h1]
      rw [MapKept.run_setObj_map _ hb]
      simp [World.putObj, Ge.ent]
    · refine List.pairwise_append.2 ⟨hg.keys, by simp, fun a ha y hy => ?_⟩
      simp only [List.mem_singleton] at hy
      subst hy
      exact hn a ha
    · intro j y
      rw [getS_put]
      constructor
      · rintro ⟨e, he, e1, e2⟩
        rcases List.mem_append.1 he with he | he
        · rw [if_neg (fun hx => hn e he (e1.trans hx))]
          exact (hg.mem j y).1 ⟨e, he, e1, e2⟩
        · simp only [List.mem_singleton] at he
          subst he
          rw [if_pos e1.symm]; exact congrArg some e2
      · intro hy
        split at hy
        · rename_i hj
          cases hy
          exact ⟨(c, k, v, x), by simp, hj.symm, rfl⟩
        · obtain ⟨e, he, e1⟩ := (hg.mem j y).2 hy
          exact ⟨e, by simp [he], e1⟩
    · refine List.pairwise_append.2 ⟨hg.born, by simp, fun a ha y hy => ?_⟩
      simp only [List.mem_singleton] at hy
      subst hy
      have := hg.old a ha
      show a.1 ≠ c
      omega
    · intro e he
      rcases List.mem_append.1 he with he | he
      · have := hg.old e he; omega
      · simp only [List.mem_singleton] at he
        subst he; show c < c + 1; omega
    · intro e he
      rcases List.mem_append.1 he with he | he
      · exact hg.kept e he
      · simp only [List.mem_singleton] at he
        subst he; exact hv
  · have hil := List.getElem?_eq_some_iff.1 hi
    have hkeys : ∀ a ∈ E, a.2.1 = k → a = e := fun a ha hk => by
      obtain ⟨j, hj, he⟩ := List.getElem_of_mem ha
      rcases Nat.lt_trichotomy i j with hlt | he' | hlt
      · have := List.pairwise_iff_getElem.1 hg.keys i j hil.1 hj hlt
        rw [hil.2, he] at this; exact absurd (h3.trans hk.symm) this
      · subst he'; rw [← he, hil.2]
      · have := List.pairwise_iff_getElem.1 hg.keys j i hj hil.1 hlt
        rw [hil.2, he] at this; exact absurd (hk.trans h3.symm) this
    have hset : ∀ a, a ∈ E.set i (e.1, k, v, x) → a = (e.1, k, v, x) ∨ (a ∈ E ∧ a.2.1 ≠ k) := fun a ha => by
      obtain ⟨j, hj, he⟩ := List.getElem_of_mem ha
      rw [List.length_set] at hj
      rw [List.getElem_set] at he
      split at he
      · exact .inl he.symm
      · rename_i hne
        refine .inr ⟨by rw [← he]; exact List.getElem_mem _, fun hk => ?_⟩
        rcases Nat.lt_or_gt_of_ne hne with hlt | hlt
        · have := List.pairwise_iff_getElem.1 hg.keys i j hil.1 hj hlt
          rw [hil.2, he] at this; exact this (h3.trans hk.symm)
        · have := List.pairwise_iff_getElem.1 hg.keys j i hj hil.1 hlt
          rw [hil.2, he] at this; exact this (hk.trans h3.symm)
    have hof : ∀ a ∈ E, a.2.1 ≠ k → a ∈ E.set i (e.1, k, v, x) := fun a ha hk => by
      obtain ⟨j, hj, he⟩ := List.getElem_of_mem ha
      have hne : i ≠ j := fun hx => by subst hx; rw [hil.2] at he; exact hk (by rw [← he]; exact h3)
      have : (E.set i (e.1, k, v, x))[j]? = some a := by rw [List.getElem?_set_ne hne, List.getElem?_eq_getElem hj, he]
      exact List.mem_of_getElem? this
    have hin : (e.1, k, v, x) ∈ E.set i (e.1, k, v, x) := List.mem_of_getElem? (List.getElem?_set_self hil.1)
    refine .of (w' := W.putObj b (mO (E.set i (e.1, k, v, x)) c)) ?_ (kk _ (St.shutG (h.putO (b := b) (o := mO E c) _) ⟨?_, ?_, ?_, ?_, ?_⟩))
    · have hke : ((E.map Ge.ent).toArray[i]?).map (·.key) = some (strV k) := by simp [hi, Ge.ent, h3]
      have e1 : ((E.map Ge.ent).toArray.modify i fun q => { q with key := strV k, val := v }) = ((E.set i (e.1, k, v, x)).map Ge.ent).toArray := by
        apply Array.toList_inj.1
        rw [Array.toList_modify]
        simp only [List.map_set]
        refine List.ext_getElem? fun j => ?_
        rw [List.getElem?_modify]
        by_cases hj : i = j
        · subst hj
          rw [List.getElem?_set_self (by simpa using hil.1), List.getElem?_map, hi]
          simp [Ge.ent]
        · rw [List.getElem?_set_ne hj]
          simp [hj]
      have hsb : Instr.sameBits 10000 (strV k) (strV k) = true := by
        show ((⟨k.toArray⟩ : ByteArray) == ⟨k.toArray⟩) = true
        exact (MapKept.bytes_beq _ _).2 rfl
      have hks : (Instr.keyThatStays (strV k) (strV k)).run P W = .ok (strV k) W := by
        unfold Instr.keyThatStays
        rw [hsb]
        rfl
      simp only [Instr.mapUpdate, Sem.run_bind, run_underlying U.eq, Result.andThen, hgo, mO, Sem.run_pure, run_checkKey U1.eq, List.toList_toArray, run_findKey U1.eq, h1, hke, Option.getD_some, hks, e1]
      exact MapKept.run_setObj_map _ hb
    · have : (E.set i (e.1, k, v, x)).map (fun a => a.2.1) = E.map fun a => a.2.1 := by
        rw [List.map_set]
        refine List.ext_getElem? fun j => ?_
        by_cases hj : i = j
        · subst hj
          rw [List.getElem?_set_self (by simpa using hil.1), List.getElem?_map, hi]
          exact congrArg some h3.symm
        · rw [List.getElem?_set_ne hj]
      have h5 : (E.map fun a => a.2.1).Pairwise (· ≠ ·) := List.pairwise_map.2 hg.keys
      rw [← this] at h5
      exact List.pairwise_map.1 h5
    · intro j y
      rw [getS_put]
      constructor
      · rintro ⟨a, ha, e1, e2⟩
        rcases hset a ha with rfl | ⟨ha, hk⟩
        · rw [if_pos e1.symm]; exact congrArg some e2
        · rw [if_neg (fun hx => hk (e1.trans hx))]
          exact (hg.mem j y).1 ⟨a, ha, e1, e2⟩
      · intro hy
        split at hy
        · rename_i hj
          cases hy
          exact ⟨_, hin, hj.symm, rfl⟩
        · rename_i hj
          obtain ⟨a, ha, e1, e2⟩ := (hg.mem j y).2 hy
          exact ⟨a, hof a ha (by rw [e1]; exact hj), e1, e2⟩
    · have : (E.set i (e.1, k, v, x)).map (fun a => a.1) = E.map fun a => a.1 := by
        rw [List.map_set]
        refine List.ext_getElem? fun j => ?_
        by_cases hj : i = j
        · subst hj
          rw [List.getElem?_set_self (by simpa using hil.1), List.getElem?_map, hi]
          rfl
        · rw [List.getElem?_set_ne hj]
      have h5 : (E.map fun a => a.1).Pairwise (· ≠ ·) := List.pairwise_map.2 hg.born
      rw [← this] at h5
      exact List.pairwise_map.1 h5
    · intro a ha
      rcases hset a ha with rfl | ⟨ha, _⟩
      · exact hg.old e (List.mem_of_getElem? hi)
      · exact hg.old a ha
    · intro a ha
      rcases hset a ha with rfl | ⟨ha, _⟩
      · exact hv
      · exact hg.kept a ha
/-- a map without entries -/
theorem St.mapNew [U : Und P t (.map kt et)] (h : St w0 G l W) (zs : Zs) (kk : ∀ b W', St w0 G (Ky b (Mg zs []) :: l) W' → KW (.map (some b)) W') : RunV P (Instr.makeMap t none) W KW := by
  have h1 := h.newB (b := W.heap.size) (o := mO [] 0) ((Below.refl _ W).alloc (Nat.le_refl _) _) (Nat.le_refl _) (World.alloc_heap_new W _)
  have h2 := St.shutG (b := W.heap.size) (zs := zs) (m := []) (E := []) (c := 0) h1 ⟨List.Pairwise.nil, fun k x => by simp [getS, XRd.lookS], List.Pairwise.nil, by simp, by simp⟩
  refine .of ?_ (kk _ _ h2)
  simp [Instr.makeMap, mO, run_newObj_alloc]
/-! ### a pool of maps -/
def Km (ms : List (Nat × Fm)) (_ : PoolK) : As := As.all True (ms.map fun z => Ky z.1 (Mg () z.2))
variable {ms : List (Nat × Fm)}
theorem St.kmNil (k : PoolK) (h : St w0 G l W) : St w0 G (Ky k (Km []) :: l) W := St.shutA (L := []) trivial h
theorem St.kmGet (k : PoolK) [i : Has l k (Km ms) R] (h : St w0 G l W) (hz : (b, m) ∈ ms) : ∃ E c, GmOk () m E c ∧ W.heap[b]? = some (mO E c) := by
  obtain ⟨F, ⟨_, hF⟩, _⟩ := (h.find (k := k) (X := Km ms)).fact
  obtain ⟨F', ⟨x, hx⟩⟩ := sepL_memQ (List.mem_map.2 ⟨_, hz, rfl⟩) hF
  obtain ⟨h1, F1, F2, h2, _⟩ := hx
  exact ⟨x.1, x.2, h1, h2.2⟩
theorem St.kmAdd (k : PoolK) {R1 : List As} [i : Has l b (Mg () m) R1] [j : Has R1 k (Km ms) R] (h : St w0 G l W) : St w0 G (Ky k (Km ((b, m) :: ms)) :: R) W := by
  obtain ⟨F0, hF0, hG0⟩ := h.own
  have h : St w0 G (Ky b (Mg () m) :: Ky k (Km ms) :: R) W := { h with own := ⟨F0, sepL_mono j.to (i.to F0 W hF0), hG0⟩ }
  refine St.shutA (L := (((b, m) :: ms).map fun z => Ky z.1 (Mg () z.2))) trivial ?_
  obtain ⟨F, ⟨F1, F2, h1, h2, hd, hF⟩, hG⟩ := h.own
  obtain ⟨F3, F4, h3, h4, hd', hF'⟩ := h2
  exact { h with own := ⟨F, ⟨F1, F2, h1, sepL_append.2 ⟨F3, F4, h3.2, h4, hd', hF'⟩, hd, hF⟩, hG⟩ }
/-- a map of the pool, read -/
theorem St.kmLook (k : PoolK) {j : Txt} [i : Has l k (Km ms) R] [U : Und P t (.map kt et)] [U1 : Und P kt .string] [T : Ty1 P et (.string ⟨#[]⟩)] (h : St w0 G l W) (hz : (b, m) ∈ ms) (kk : KW (.tuple #[strV (gt j m), .bool (getS j m).isSome]) W) : RunV P (Instr.lookup t (.map (some b)) (strV j) true) W KW := by
  obtain ⟨E, c, hg, hb⟩ := h.kmGet (k := k) (ms := ms) hz
  obtain ⟨v, h1, h2⟩ := run_look (P := P) (t := t) (kt := kt) (et := et) (k := j) (ok := true) hg hb
  cases h1
  exact .of h2 kk
end
end Go.Ez
