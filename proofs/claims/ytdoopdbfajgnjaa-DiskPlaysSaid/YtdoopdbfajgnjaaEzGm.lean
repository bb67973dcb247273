/-
  EZ: Go's own maps of texts to slices of bytes; a pool of slices of bytes that are kept and shared.
-/
import Derived.Test.YtdoopdbfajgnjaaEzKq
import Derived.Test.YtdoopdbfajgnjaaDkP
import Derived.Maps.RangeRun
namespace Go.Ez
open Go Go.Proofs Go.RowKit
open Go.ChangeMaps (setBlock)
set_option linter.unusedSimpArgs false
set_option linter.unusedVariables false

/-! ### the pool -/
abbrev Zs := List (Value × Txt)
/-- kept bytes, or none -/
def PlIn (zs : Zs) (v : Value) (x : Txt) : Prop := (v, x) ∈ zs ∨ (v = .slice none 0 0 ∧ x = [])
theorem PlIn.sub {zs zs' : Zs} {v : Value} {x : Txt} (h : PlIn zs v x) (hz : ∀ z ∈ zs, z ∈ zs') : PlIn zs' v x := h.imp (hz _) id
def Pl (zs : Zs) (_ : PoolK) : As :=
  ⟨fun F w => (∀ b, F b ↔ ∃ z ∈ zs, z.1.ownBlock = some b ∧ z.2 ≠ []) ∧ ∀ z ∈ zs, By w z.1 z.2,
   fun {F w} h b hb => by
    obtain ⟨z, hz, h1, h2⟩ := (h.1 b).1 hb
    obtain ⟨ao, cap, hv, h3, h4, h5, h6⟩ := h.2 z hz
    obtain ⟨v, x⟩ := z
    cases x with
    | nil => exact absurd rfl h2
    | cons u cs =>
      obtain ⟨b', o, e1, e2⟩ := h5 0 (byteV u) rfl
      simp only at hv h1
      rw [hv, e1] at h1
      cases h1
      exact World.block_lt_of_cell? _ _ e2,
   fun {F w w'} h hw => ⟨h.1, fun z hz => Sl.loc (h.2 z hz) fun b hb hc => hw b ((h.1 b).2 ⟨z, hz, hb, fun hx => hc (by rw [hx]; rfl)⟩)⟩⟩
section
variable {w0 W : World} {G : Nat → Prop} {l R R1 : List As} {zs : Zs} {v : Value} {x : Txt}
theorem St.plNil (k : PoolK) (h : St w0 G l W) : St w0 G (Ky k (Pl []) :: l) W :=
  h.new (F := fun _ => False) (Below.refl _ _) ⟨fun b => by simp, fun z hz => by cases hz⟩ fun _ h => h.elim
theorem St.plGet (k : PoolK) [i : Has l k (Pl zs) R] (h : St w0 G l W) (hz : PlIn zs v x) : By W v x := by
  rcases hz with hz | ⟨rfl, rfl⟩
  · obtain ⟨F, hF, _⟩ := (h.find (k := k) (X := Pl zs)).fact
    exact hF.2 _ hz
  · exact Sl.nil W 1
theorem St.plAdd (k : PoolK) {e : TypeId} {cs : List Value} {n : Nat} [i : Has l v (Ow e 1 n cs) R1] [j : Has R1 k (Pl zs) R] (h : St w0 G l W) (hn : n = x.length) (hc : cs = bytesV x) : St w0 G (Ky k (Pl ((v, x) :: zs)) :: R) W := by
  subst hn; subst hc
  obtain ⟨F0, hF0, hG0⟩ := h.own
  obtain ⟨F1, F2, h1, h2, hd, hF⟩ := i.to F0 W hF0
  obtain ⟨F3, F4, h3, h4, hd', hF'⟩ := j.to F2 W h2
  have h1' : (Ow e 1 x.length (bytesV x) v).p F1 W := h1
  refine { h with own := ⟨fun b => ((F1 b ∧ x ≠ []) ∨ F3 b) ∨ F4 b, ⟨fun b => (F1 b ∧ x ≠ []) ∨ F3 b, F4, ⟨fun b => ?_, ?_⟩, h4, ?_, fun _ => Iff.rfl⟩, fun b hb => hG0 b ?_⟩ }
  · have e3 := h3.1 b
    have e1 := h1'.1 b
    constructor
    · rintro (⟨a, c⟩ | a)
      · exact ⟨(v, x), List.mem_cons_self, e1.1 a, c⟩
      · obtain ⟨z, hz, h5⟩ := e3.1 a
        exact ⟨z, List.mem_cons_of_mem _ hz, h5⟩
    · rintro ⟨z, hz, h5, h6⟩
      rcases List.mem_cons.1 hz with rfl | hz
      · exact .inl ⟨e1.2 h5, h6⟩
      · exact .inr (e3.2 ⟨z, hz, h5, h6⟩)
  · intro z hz
    rcases List.mem_cons.1 hz with rfl | hz
    · exact Sl.of_own h1'.2
    · exact h3.2 z hz
  · rintro b (a | a) c
    · exact hd b a.1 ((hF' b).2 (.inr c))
    · exact hd' b a c
  · rw [hF b, hF' b]
    rcases hb with (hb | hb) | hb
    · exact .inl hb.1
    · exact .inr (.inl hb)
    · exact .inr (.inr hb)
end

/-! ### maps -/
abbrev Ge := Nat × Txt × Value × Txt
def Ge.ent (e : Ge) : MapEntry := { key := strV e.2.1, val := e.2.2.1, born := e.1 }
/-- entries that tell m -/
structure GmOk (zs : Zs) (m : Fm) (E : List Ge) (clock : Nat) : Prop where
  srt : Srt m
  keys : E.Pairwise fun a b => a.2.1 ≠ b.2.1
  mem : ∀ k x, (∃ e ∈ E, e.2.1 = k ∧ e.2.2.2 = x) ↔ getK k m = some x
  born : E.Pairwise fun a b => a.1 ≠ b.1
  old : ∀ e ∈ E, e.1 < clock
  kept : ∀ e ∈ E, PlIn zs e.2.2.1 e.2.2.2
def mO (E : List Ge) (clock : Nat) : Obj := .map (E.map Ge.ent).toArray clock
/-- block b is a map that tells m -/
def Mg (zs : Zs) (m : Fm) (b : Nat) : As := As.ex fun p : List Ge × Nat => As.all (GmOk zs m p.1 p.2) [Ky b (Ob (mO p.1 p.2))]
theorem GmOk.sub {zs zs' : Zs} {m : Fm} {E : List Ge} {c : Nat} (h : GmOk zs m E c) (hz : ∀ z ∈ zs, z ∈ zs') : GmOk zs' m E c := ⟨h.srt, h.keys, h.mem, h.born, h.old, fun e he => (h.kept e he).sub hz⟩
theorem GmOk.perm {zs : Zs} {m : Fm} {E : List Ge} {c : Nat} (h : GmOk zs m E c) : (E.map fun e => (e.2.1, e.2.2.2)).Perm m := by
  refine (List.perm_ext_iff_of_nodup ?_ ?_).2 ?_
  · refine List.pairwise_map.2 (h.keys.imp ?_)
    intro a b hab he
    exact hab (Prod.ext_iff.1 he).1
  · refine h.srt.imp ?_
    intro a b hab he
    rw [he, OKey.irr] at hab; cases hab
  · rintro ⟨k, x⟩
    rw [mem_iff_get h.srt, ← h.mem k x, List.mem_map]
    constructor
    · rintro ⟨e, he, h1⟩
      exact ⟨e, he, (Prod.ext_iff.1 h1).1, (Prod.ext_iff.1 h1).2⟩
    · rintro ⟨e, he, h1, h2⟩
      exact ⟨e, he, Prod.ext h1 h2⟩
theorem GmOk.len {zs : Zs} {m : Fm} {E : List Ge} {c : Nat} (h : GmOk zs m E c) : E.length = m.length := by have := h.perm.length_eq; simpa using this
/-- where a key stands -/
def findE (k : Txt) : List Ge → Nat → Option (Nat × Value)
  | [], _ => none
  | e :: E, i => if k = e.2.1 then some (i, e.2.2.1) else findE k E (i + 1)
theorem findNow_E (k : Txt) : ∀ (E : List Ge) (i : Nat), Instr.findNow .string (strV k) (E.map Ge.ent) i = some (findE k E i)
  | [], _ => rfl
  | e :: E, i => by
    have hs : Instr.sameNow .string (strV k) (strV e.2.1) = some (decide (k = e.2.1)) := by
      show some ((⟨k.toArray⟩ : ByteArray) == ⟨e.2.1.toArray⟩) = _
      congr 1
      rw [Bool.eq_iff_iff, MapKept.bytes_beq, decide_eq_true_iff]
      exact strL_inj
    show (match Instr.sameNow .string (strV k) (strV e.2.1) with | some true => _ | some false => _ | none => _) = _
    rw [hs]
    unfold findE
    by_cases hk : k = e.2.1
    · rw [if_pos hk]; simp [hk, Ge.ent]
    · rw [if_neg hk]; simp [hk]; exact findNow_E k E (i + 1)
theorem findE_some {k : Txt} {v : Value} : ∀ {E : List Ge} {i j : Nat}, findE k E i = some (j, v) → ∃ q e, j = i + q ∧ E[q]? = some e ∧ e.2.1 = k ∧ e.2.2.1 = v
  | [], _, _, h => by cases h
  | e :: E, i, j, h => by
    unfold findE at h
    split at h
    · rename_i hk
      cases h
      exact ⟨0, e, rfl, rfl, hk.symm, rfl⟩
    · obtain ⟨q, e', h1, h2, h3⟩ := findE_some h
      exact ⟨q + 1, e', by omega, by simpa using h2, h3⟩
theorem findE_none {k : Txt} : ∀ {E : List Ge} {i : Nat}, findE k E i = none → ∀ e ∈ E, e.2.1 ≠ k
  | [], _, _, _, he => by cases he
  | e :: E, i, h, e', he => by
    unfold findE at h
    split at h
    · cases h
    · rename_i hk
      rcases List.mem_cons.1 he with rfl | he
      · exact fun h => hk h.symm
      · exact findE_none h e' he
section
variable {P : Program} {w0 W : World} {G : Nat → Prop} {l R : List As} {zs zs' : Zs} {m : Fm} {b : Nat} {t kt et : TypeId} {KW : Value → World → Prop} {KU : World → Prop} {K : Value → Prop}
theorem St.openG [i : Has l b (Mg zs m) R] (h : St w0 G l W) : ∃ E c, GmOk zs m E c ∧ St w0 G (Ky b (Ob (mO E c)) :: R) W := by
  have h1 : St w0 G (Mg zs m b :: R) W := h.find (k := b) (X := Mg zs m)
  obtain ⟨⟨E, c⟩, h2⟩ := h1.openE
  obtain ⟨hv, h3⟩ := h2.open1
  exact ⟨E, c, hv, h3⟩
theorem St.shutG {E : List Ge} {c : Nat} [i : Has l b (Ob (mO E c)) R] (h : St w0 G l W) (hg : GmOk zs m E c) : St w0 G (Ky b (Mg zs m) :: R) W :=
  St.shutE (f := fun p : List Ge × Nat => As.all (GmOk zs m p.1 p.2) [Ky b (Ob (mO p.1 p.2))]) (E, c) (St.shut1 hg (h.find (k := b) (X := Ob (mO E c))))
theorem St.upG [i : Has l b (Mg zs m) R] (h : St w0 G l W) (hz : ∀ z ∈ zs, z ∈ zs') : St w0 G (Ky b (Mg zs' m) :: R) W := by
  obtain ⟨E, c, hg, h⟩ := h.openG (b := b)
  exact h.shutG (hg.sub hz)
theorem run_findKey (hk : P.underlying kt = some .string) (k : Txt) (E : List Ge) : (Instr.findKey kt (strV k) (E.map Ge.ent)).run P W = .ok (findE k E 0) W := by
  have : (Instr.findKey kt (strV k) (E.map Ge.ent)) = (do match Instr.findNow (← underlying kt) (strV k) (E.map Ge.ent) 0 with | some r => pure r | none => Instr.findAsking kt (strV k) (E.map Ge.ent)) := rfl
  rw [this]
  simp only [Sem.run_bind, run_underlying hk, Result.andThen, findNow_E]
  rfl
theorem run_checkKey (hk : P.underlying kt = some .string) (k : Txt) (e : Bool) : (Instr.checkKey e 10000 kt (strV k)).run P W = .ok () W := by
  exact MapKept.run_checkKey hk (by simp [MapKept.IsKey]) e 9999
theorem GmOk.found {E : List Ge} {c : Nat} (hg : GmOk zs m E c) (k : Txt) : (findE k E 0 = none ∧ getK k m = none) ∨ ∃ i e, findE k E 0 = some (i, e.2.2.1) ∧ E[i]? = some e ∧ e.2.1 = k ∧ getK k m = some e.2.2.2 ∧ PlIn zs e.2.2.1 e.2.2.2 := by
  cases hf : findE k E 0 with
  | none =>
    refine .inl ⟨rfl, ?_⟩
    cases hx : getK k m with
    | none => rfl
    | some x =>
      obtain ⟨e, he, h1, _⟩ := (hg.mem k x).2 hx
      exact absurd h1 (findE_none hf e he)
  | some p =>
    obtain ⟨j, v⟩ := p
    obtain ⟨q, e, h1, h2, h3, h4⟩ := findE_some hf
    have hm := List.mem_of_getElem? h2
    refine .inr ⟨q, e, by rw [h1, Nat.zero_add, h4], h2, h3, (hg.mem k _).1 ⟨e, hm, h3, rfl⟩, hg.kept e hm⟩
theorem mapOb [i : Has l b (Mg zs m) R] (h : St w0 G l W) : ∃ E c, GmOk zs m E c ∧ W.heap[b]? = some (mO E c) := by
  obtain ⟨E, c, hg, h⟩ := h.openG (b := b)
  exact ⟨E, c, hg, h.ob⟩
theorem run_look {E : List Ge} {c : Nat} {k : Txt} {ok : Bool} [U : Und P t (.map kt et)] [U1 : Und P kt .string] [T : Ty1 P et (.slice none 0 0)] (hg : GmOk zs m E c) (hb : W.heap[b]? = some (mO E c)) :
    ∃ v, PlIn zs v (gt k m) ∧ (Instr.lookup t (.map (some b)) (strV k) ok).run P W = .ok (if ok then .tuple #[v, .bool (getK k m).isSome] else v) W := by
  have hgo : (getObj b).run P W = .ok (mO E c) W := MapKept.run_getObj_map hb
  rcases hg.found k with ⟨h1, h2⟩ | ⟨i, e, h1, _, _, h2, h3⟩
  · refine ⟨.slice none 0 0, .inr ⟨rfl, by unfold gt; rw [h2]; rfl⟩, ?_⟩
    simp only [Instr.lookup, Sem.run_bind, run_underlying U.eq, Result.andThen, hgo, mO, Sem.run_pure, run_checkKey U1.eq, List.toList_toArray, run_findKey U1.eq, h1, T.zero, h2]
    rfl
  · refine ⟨e.2.2.1, by unfold gt; rw [h2]; exact h3, ?_⟩
    simp only [Instr.lookup, Sem.run_bind, run_underlying U.eq, Result.andThen, hgo, mO, Sem.run_pure, run_checkKey U1.eq, List.toList_toArray, run_findKey U1.eq, h1, h2]
    rfl
theorem St.look {k : Txt} [i : Has l b (Mg zs m) R] [U : Und P t (.map kt et)] [U1 : Und P kt .string] [T : Ty1 P et (.slice none 0 0)] (h : St w0 G l W) (kk : ∀ v, PlIn zs v (gt k m) → KW v W) : RunV P (Instr.lookup t (.map (some b)) (strV k) false) W KW := by
  obtain ⟨E, c, hg, hb⟩ := mapOb (b := b) h
  obtain ⟨v, h1, h2⟩ := run_look (P := P) (t := t) (kt := kt) (et := et) (k := k) (ok := false) hg hb
  exact .of h2 (kk v h1)
theorem St.look2 {k : Txt} [i : Has l b (Mg zs m) R] [U : Und P t (.map kt et)] [U1 : Und P kt .string] [T : Ty1 P et (.slice none 0 0)] (h : St w0 G l W) (kk : ∀ v, PlIn zs v (gt k m) → KW (.tuple #[v, .bool (getK k m).isSome]) W) : RunV P (Instr.lookup t (.map (some b)) (strV k) true) W KW := by
  obtain ⟨E, c, hg, hb⟩ := mapOb (b := b) h
  obtain ⟨v, h1, h2⟩ := run_look (P := P) (t := t) (kt := kt) (et := et) (k := k) (ok := true) hg hb
  exact .of h2 (kk v h1)
/-- m[k] = v -/
theorem St.mapPut {k x : Txt} {v : Value} [i : Has l b (Mg zs m) R] [U : Und P t (.map kt et)] [U1 : Und P kt .string] (h : St w0 G l W) (hv : PlIn zs v x) (kk : ∀ W', St w0 G (Ky b (Mg zs (putK k x m)) :: R) W' → KU W') : RunU P (Instr.mapUpdate t (.map (some b)) (strV k) v) W KU := by
  obtain ⟨E, c, hg, h⟩ := h.openG (b := b)
  have hb := h.ob (b := b) (o := mO E c)
  have hgo : (getObj b).run P W = .ok (mO E c) W := MapKept.run_getObj_map hb
  rcases hg.found k with ⟨h1, h2⟩ | ⟨i, e, h1, hi, h3, h2, _⟩
  · have hn := findE_none h1
    refine .of (w' := W.putObj b (mO (E ++ [(c, k, v, x)]) (c + 1))) ?_ (kk _ (St.shutG (h.putO (b := b) (o := mO E c) _) ⟨srt_put hg.srt, ?_, ?_, ?_, ?_, ?_⟩))
    · have e1 : (E.map Ge.ent).toArray.push { key := strV k, val := v, born := c } = ((E ++ [(c, k, v, x)]).map Ge.ent).toArray := by simp [Ge.ent]
      simp only [Instr.mapUpdate, Sem.run_bind, run_underlying U.eq, Result.andThen, hgo, mO, Sem.run_pure, run_checkKey U1.eq, List.toList_toArray, run_findKey U1.eq, h1]
      rw [MapKept.run_setObj_map _ hb]
      simp [World.putObj, Ge.ent]
    · refine List.pairwise_append.2 ⟨hg.keys, by simp, fun a ha y hy => ?_⟩
      simp only [List.mem_singleton] at hy
      subst hy
      exact hn a ha
    · intro j y
      rw [get_put hg.srt]
      constructor
      · rintro ⟨e, he, e1, e2⟩
        rcases List.mem_append.1 he with he | he
        · rw [if_neg (fun hx => hn e he (e1.trans hx))]
          exact (hg.mem j y).1 ⟨e, he, e1, e2⟩
        · simp only [List.mem_singleton] at he
          subst he
          rw [if_pos e1.symm]; exact congrArg some e2
      · intro hy
        split at hy
        · rename_i hj
          cases hy
          exact ⟨(c, k, v, x), by simp, hj.symm, rfl⟩
        · obtain ⟨e, he, e1⟩ := (hg.mem j y).2 hy
          exact ⟨e, by simp [he], e1⟩
    · refine List.pairwise_append.2 ⟨hg.born, by simp, fun a ha y hy => ?_⟩
      simp only [List.mem_singleton] at hy
      subst hy
      have := hg.old a ha
      show a.1 ≠ c
      omega
    · intro e he
      rcases List.mem_append.1 he with he | he
      · have := hg.old e he; omega
      · simp only [List.mem_singleton] at he
        subst he; show c < c + 1; omega
    · intro e he
      rcases List.mem_append.1 he with he | he
      · exact hg.kept e he
      · simp only [List.mem_singleton] at he
        subst he; exact hv
  · have hil := List.getElem?_eq_some_iff.1 hi
    have hkeys : ∀ a ∈ E, a.2.1 = k → a = e := fun a ha hk => by
      obtain ⟨j, hj, he⟩ := List.getElem_of_mem ha
      rcases Nat.lt_trichotomy i j with hlt | he' | hlt
      · have := List.pairwise_iff_getElem.1 hg.keys i j hil.1 hj hlt
        rw [hil.2, he] at this; exact absurd (h3.trans hk.symm) this
      · subst he'; rw [← he, hil.2]
      · have := List.pairwise_iff_getElem.1 hg.keys j i hj hil.1 hlt
        rw [hil.2, he] at this; exact absurd (hk.trans h3.symm) this
    have hset : ∀ a, a ∈ E.set i (e.1, k, v, x) → a = (e.1, k, v, x) ∨ (a ∈ E ∧ a.2.1 ≠ k) := fun a ha => by
      obtain ⟨j, hj, he⟩ := List.getElem_of_mem ha
      rw [List.length_set] at hj
      rw [List.getElem_set] at he
      split at he
      · exact .inl he.symm
      · rename_i hne
        refine .inr ⟨by rw [← he]; exact List.getElem_mem _, fun hk => ?_⟩
        rcases Nat.lt_or_gt_of_ne hne with hlt | hlt
        · have := List.pairwise_iff_getElem.1 hg.keys i j hil.1 hj hlt
          rw [hil.2, he] at this; exact this (h3.trans hk.symm)
        · have := List.pairwise_iff_getElem.1 hg.keys j i hj hil.1 hlt
          rw [hil.2, he] at this; exact this (hk.trans h3.symm)
    have hof : ∀ a ∈ E, a.2.1 ≠ k → a ∈ E.set i (e.1, k, v, x) := fun a ha hk => by
      obtain ⟨j, hj, he⟩ := List.getElem_of_mem ha
      have hne : i ≠ j := fun hx => by subst hx; rw [hil.2] at he; exact hk (by rw [← he]; exact h3)
      have : (E.set i (e.1, k, v, x))[j]? = some a := by rw [List.getElem?_set_ne hne, List.getElem?_eq_getElem hj, he]
      exact List.mem_of_getElem? this
    have hin : (e.1, k, v, x) ∈ E.set i (e.1, k, v, x) := List.mem_of_getElem? (List.getElem?_set_self hil.1)
    refine .of (w' := W.putObj b (mO (E.set i (e.1, k, v, x)) c)) ?_ (kk _ (St.shutG (h.putO (b := b) (o := mO E c) _) ⟨srt_put hg.srt, ?_, ?_, ?_, ?_, ?_⟩))
    · have hke : ((E.map Ge.ent).toArray[i]?).map (·.key) = some (strV k) := by simp [hi, Ge.ent, h3]
      have e1 : ((E.map Ge.ent).toArray.modify i fun q => { q with key := strV k, val := v }) = ((E.set i (e.1, k, v, x)).map Ge.ent).toArray := by
        apply Array.toList_inj.1
        rw [Array.toList_modify]
        simp only [List.map_set]
        refine List.ext_getElem? fun j => ?_
        rw [List.getElem?_modify]
        by_cases hj : i = j
        · subst hj
          rw [List.getElem?_set_self (by simpa using hil.1), List.getElem?_map, hi]
          simp [Ge.ent]
        · rw [List.getElem?_set_ne hj]
          simp [hj]
      have hsb : Instr.sameBits 10000 (strV k) (strV k) = true := by
        show ((⟨k.toArray⟩ : ByteArray) == ⟨k.toArray⟩) = true
        exact (MapKept.bytes_beq _ _).2 rfl
      have hks : (Instr.keyThatStays (strV k) (strV k)).run P W = .ok (strV k) W := by
        unfold Instr.keyThatStays
        rw [hsb]
        rfl
      simp only [Instr.mapUpdate, Sem.run_bind, run_underlying U.eq, Result.andThen, hgo, mO, Sem.run_pure, run_checkKey U1.eq, List.toList_toArray, run_findKey U1.eq, h1, hke, Option.getD_some, hks, e1]
      exact MapKept.run_setObj_map _ hb
    · have : (E.set i (e.1, k, v, x)).map (fun a => a.2.1) = E.map fun a => a.2.1 := by
        rw [List.map_set]
        refine List.ext_getElem? fun j => ?_
        by_cases hj : i = j
        · subst hj
          rw [List.getElem?_set_self (by simpa using hil.1), List.getElem?_map, hi]
          exact congrArg some h3.symm
        · rw [List.getElem?_set_ne hj]
      have h5 : (E.map fun a => a.2.1).Pairwise (· ≠ ·) := List.pairwise_map.2 hg.keys
      rw [← this] at h5
      exact List.pairwise_map.1 h5
    · intro j y
      rw [get_put hg.srt]
      constructor
      · rintro ⟨a, ha, e1, e2⟩
        rcases hset a ha with rfl | ⟨ha, hk⟩
        · rw [if_pos e1.symm]; exact congrArg some e2
        · rw [if_neg (fun hx => hk (e1.trans hx))]
          exact (hg.mem j y).1 ⟨a, ha, e1, e2⟩
      · intro hy
        split at hy
        · rename_i hj
          cases hy
          exact ⟨_, hin, hj.symm, rfl⟩
        · rename_i hj
          obtain ⟨a, ha, e1, e2⟩ := (hg.mem j y).2 hy
          exact ⟨a, hof a ha (by rw [e1]; exact hj), e1, e2⟩
    · have : (E.set i (e.1, k, v, x)).map (fun a => a.1) = E.map fun a => a.1 := by
        rw [List.map_set]
        refine List.ext_getElem? fun j => ?_
        by_cases hj : i = j
        · subst hj
          rw [List.getElem?_set_self (by simpa using hil.1), List.getElem?_map, hi]
          rfl
        · rw [List.getElem?_set_ne hj]
      have h5 : (E.map fun a => a.1).Pairwise (· ≠ ·) := List.pairwise_map.2 hg.born
      rw [← this] at h5
      exact List.pairwise_map.1 h5
    · intro a ha
      rcases hset a ha with rfl | ⟨ha, _⟩
      · exact hg.old e (List.mem_of_getElem? hi)
      · exact hg.old a ha
    · intro a ha
      rcases hset a ha with rfl | ⟨ha, _⟩
      · exact hv
      · exact hg.kept a ha
/-- delete(m, k) -/
theorem St.mapDel {k : Txt} {kt' ty : TypeId} [i : Has l b (Mg zs m) R] [U : Und P t (.map kt et)] [U1 : Und P kt .string] (h : St w0 G l W) (kk : ∀ W', St w0 G (Ky b (Mg zs (delK k m)) :: R) W' → KW (.tuple #[]) W') : RunV P (Builtin.delete_ #[t, kt'] ty #[.map (some b), strV k]) W KW := by
  obtain ⟨E, c, hg, h⟩ := h.openG (b := b)
  have hb := h.ob (b := b) (o := mO E c)
  have hgo : (getObj b).run P W = .ok (mO E c) W := MapKept.run_getObj_map hb
  rcases hg.found k with ⟨h1, h2⟩ | ⟨i, e, h1, hi, h3, h2, _⟩
  · have hd : delK k m = m := by
      unfold delK
      rw [if_neg (by rw [hasK_get hg.srt, h2]; simp)]
    refine .of (w' := W.putObj b (mO E c)) ?_ (kk _ (by rw [hd]; exact St.shutG (h.putO (b := b) (o := mO E c) _) hg))
    simp only [Builtin.delete_, Sem.run_bind, run_underlying U.eq, Result.andThen, hgo, mO, Sem.run_pure, run_checkKey U1.eq, List.toList_toArray, run_findKey U1.eq, h1]
    simp [setObj, Sem.run, hb, World.putObj, mO, run_underlying U.eq, hgo, run_checkKey U1.eq, run_findKey U1.eq, h1]
  · have hil := List.getElem?_eq_some_iff.1 hi
    have hers : ∀ a, a ∈ E.eraseIdx i ↔ a ∈ E ∧ a.2.1 ≠ k := fun a => by
      rw [List.mem_eraseIdx_iff_getElem]
      constructor
      · rintro ⟨j, hj, hji, he⟩
        refine ⟨by rw [← he]; exact List.getElem_mem _, fun hk => ?_⟩
        rcases Nat.lt_or_gt_of_ne hji with hlt | hlt
        · have := List.pairwise_iff_getElem.1 hg.keys j i hj hil.1 hlt
          rw [hil.2, he] at this; exact this (hk.trans h3.symm)
        · have := List.pairwise_iff_getElem.1 hg.keys i j hil.1 hj hlt
          rw [hil.2, he] at this; exact this (h3.trans hk.symm)
      · rintro ⟨ha, hk⟩
        obtain ⟨j, hj, he⟩ := List.getElem_of_mem ha
        refine ⟨j, hj, fun hx => ?_, he⟩
        subst hx
        rw [hil.2] at he; exact hk (by rw [← he]; exact h3)
    refine .of (w' := W.putObj b (mO (E.eraseIdx i) c)) ?_ (kk _ (St.shutG (h.putO (b := b) (o := mO E c) _) ⟨srt_del hg.srt, hg.keys.sublist (List.eraseIdx_sublist ..), ?_, hg.born.sublist (List.eraseIdx_sublist ..), fun a ha => hg.old a ((hers a).1 ha).1, fun a ha => hg.kept a ((hers a).1 ha).1⟩))
    · have e1 : (E.map Ge.ent).toArray.eraseIdxIfInBounds i = ((E.eraseIdx i).map Ge.ent).toArray := by
        apply Array.toList_inj.1
        simp [Array.eraseIdxIfInBounds, hil.1, ChangeMaps.map_eraseIdx]
      simp only [Builtin.delete_, Sem.run_bind, run_underlying U.eq, Result.andThen, hgo, mO, Sem.run_pure, run_checkKey U1.eq, List.toList_toArray, run_findKey U1.eq, h1]
      simp [setObj, Sem.run, hb, World.putObj, mO, run_underlying U.eq, hgo, run_checkKey U1.eq, run_findKey U1.eq, h1, e1, ChangeMaps.map_eraseIdx]
    · intro j y
      rw [get_del hg.srt]
      constructor
      · rintro ⟨a, ha, e1, e2⟩
        obtain ⟨ha, hk⟩ := (hers a).1 ha
        rw [if_neg (fun hx => hk (e1.trans hx))]
        exact (hg.mem j y).1 ⟨a, ha, e1, e2⟩
      · intro hy
        split at hy
        · cases hy
        · rename_i hj
          obtain ⟨a, ha, e1, e2⟩ := (hg.mem j y).2 hy
          exact ⟨a, (hers a).2 ⟨ha, by rw [e1]; exact hj⟩, e1, e2⟩
/-- a map without entries -/
theorem St.mapNew [U : Und P t (.map kt et)] (h : St w0 G l W) (zs : Zs) (kk : ∀ b W', St w0 G (Ky b (Mg zs []) :: l) W' → KW (.map (some b)) W') : RunV P (Instr.makeMap t none) W KW := by
  have h1 := h.newB (b := W.heap.size) (o := mO [] 0) ((Below.refl _ W).alloc (Nat.le_refl _) _) (Nat.le_refl _) (World.alloc_heap_new W _)
  have h2 := St.shutG (b := W.heap.size) (zs := zs) (m := []) (E := []) (c := 0) h1 ⟨List.Pairwise.nil, List.Pairwise.nil, fun k x => by simp [getK], List.Pairwise.nil, by simp, by simp⟩
  refine .of ?_ (kk _ _ h2)
  simp [Instr.makeMap, mO, run_newObj_alloc]
/-! ### ranges -/
def itO (b c : Nat) (told : List Ge) (c0 : Nat) : Obj := .mapIter (some b) c (told.map Prod.fst).toArray c0
/-- told of E -/
def Tld (E told : List Ge) : Prop := ∃ rest, (told ++ rest).Perm E
theorem tld_nil (E : List Ge) : Tld E [] := ⟨E, List.Perm.refl _⟩
theorem Tld.len {E told : List Ge} (h : Tld E told) : told.length ≤ E.length := by obtain ⟨r, h⟩ := h; have := h.length_eq; rw [List.length_append] at this; omega
theorem Tld.mem {E told : List Ge} (h : Tld E told) {e : Ge} (he : e ∈ told) : e ∈ E := by obtain ⟨r, h⟩ := h; exact h.subset (by simp [he])
theorem St.rangeM {E : List Ge} {c : Nat} [U : Und P t (.map kt et)] (h : St w0 G l W) (hb : W.heap[b]? = some (mO E c)) (kk : ∀ r W', St w0 G (Ky r (Ob (itO b c [] c)) :: l) W' → KW (.pointer (some ⟨r, 0, none⟩)) W') : RunV P (Instr.range t (.map (some b))) W KW :=
  .of (run_range_map W t kt et b _ c U.eq hb) (kk _ _ (h.newB (b := W.heap.size) ((Below.refl _ W).alloc (Nat.le_refl _) _) (Nat.le_refl _) (World.alloc_heap_new W _)))
theorem St.nextM {E told : List Ge} {c r : Nat} {ty : TypeId} {R1 : List As} (hg : GmOk zs m E c) (ht : Tld E told) [i : Has l r (Ob (itO b c told c)) R1] (h : St w0 G l W) (hb : W.heap[b]? = some (mO E c))
    (k1 : told.Perm E → KW (.tuple #[.bool false]) W)
    (k2 : ∀ e W', e ∈ E → Tld E (told ++ [e]) → St w0 G (Ky r (Ob (itO b c (told ++ [e]) c)) :: R1) W' → KW (.tuple #[.bool true, strV e.2.1, e.2.2.1]) W') : RunV P (Instr.next (.pointer (some ⟨r, 0, none⟩)) false ty) W KW := by
  have hr := h.ob (b := r) (o := itO b c told c)
  have h' := h.find (k := r) (X := Ob (itO b c told c))
  obtain ⟨rest, hp⟩ := ht
  have hbn : (E.map Prod.fst).Nodup := List.pairwise_map.2 hg.born
  have hpn : (told ++ rest).Pairwise fun a b => a.1 ≠ b.1 := by
    have : ((told ++ rest).map Prod.fst).Nodup := (hp.map Prod.fst).nodup_iff.2 hbn
    exact List.pairwise_map.1 this
  have happ := List.pairwise_append.1 hpn
  rcases run_next_at (P := P) W ty r b c c (told.map Prod.fst).toArray (E.map Ge.ent).toArray c hr hb (fun x hx => by
      simp only [List.toList_toArray, List.mem_map] at hx
      obtain ⟨e, he, rfl⟩ := hx
      exact hg.old e he) (Nat.le_refl _) with ⟨h1, h2⟩ | ⟨x, hx, w1, hw, hrun⟩
  · refine .of h2 (k1 ?_)
    have : rest = [] := by
      cases rest with
      | nil => rfl
      | cons e rest =>
        exfalso
        have hm : e ∈ E := hp.subset (by simp)
        have : Ge.ent e ∈ leftOf (E.map Ge.ent).toArray (told.map Prod.fst).toArray := by
          unfold leftOf
          rw [Array.mem_filter]
          refine ⟨by simp only [List.mem_toArray, List.mem_map]; exact ⟨e, hm, rfl⟩, ?_⟩
          simp only [Bool.not_eq_true', List.contains_toArray]
          rw [← Bool.not_eq_true, List.contains_iff_mem]
          intro hc
          obtain ⟨a, ha, hae⟩ := List.mem_map.1 hc
          exact happ.2.2 a ha e (by simp) hae
        have hsz := Array.size_pos_of_mem this
        omega
    subst this
    simpa using hp
  · obtain ⟨hx1, hx2⟩ := mem_left hx
    simp only [List.toList_toArray, List.mem_map] at hx1
    obtain ⟨e, he, rfl⟩ := hx1
    have hnt : e ∉ told := by
      intro hc
      have : ((told.map Prod.fst).toArray.contains (Ge.ent e).born) = true := by
        rw [List.contains_toArray, List.contains_iff_mem]
        exact List.mem_map.2 ⟨e, hc, rfl⟩
      rw [this] at hx2; cases hx2
    have her : e ∈ rest := by
      have := hp.symm.subset he
      rcases List.mem_append.1 this with h | h
      · exact absurd h hnt
      · exact h
    obtain ⟨s, t', rfl⟩ := List.append_of_mem her
    have ht2 : Tld E (told ++ [e]) := ⟨s ++ t', by
      refine List.Perm.trans ?_ hp
      rw [List.append_assoc]
      refine List.Perm.append_left _ ?_
      exact (List.perm_middle (a := e) (l₁ := s) (l₂ := t')).symm⟩
    refine .of hrun (k2 e _ he ht2 ?_)
    have hw1 : St w0 G (Ky r (Ob (itO b c told c)) :: R1) w1 := by
      rcases hw with rfl | rfl
      · exact h'
      · exact h'.drew
    have h4 := hw1.putO (b := r) (o := itO b c told c) (itO b c (told ++ [e]) c)
    have e2 : setBlock w1 r (.mapIter (some b) c ((told.map Prod.fst).toArray.push (Ge.ent e).born) c) = w1.putObj r (itO b c (told ++ [e]) c) := by
      simp [setBlock, World.putObj, itO, Ge.ent]
    rw [e2]
    exact h4
theorem St.entryM {E told : List Ge} {c r : Nat} {e : Ge} (hg : GmOk zs m E c) (he : e ∈ E) [i : Has l r (Ob (itO b c (told ++ [e]) c)) R] (h : St w0 G l W) (hb : W.heap[b]? = some (mO E c))
    (kk : KW (.tuple #[strV e.2.1, e.2.2.1]) W) : RunV P (Instr.entry (.pointer (some ⟨r, 0, none⟩))) W KW := by
  have hr := h.ob (b := r) (o := itO b c (told ++ [e]) c)
  have hr' : W.heap[r]? = some (.mapIter (some b) c ((told.map Prod.fst).toArray.push (Ge.ent e).born) c) := by
    rw [hr]
    simp [itO, Ge.ent]
  refine .of (run_entry_at (P := P) W r b c (told.map Prod.fst).toArray (E.map Ge.ent).toArray c (Ge.ent e) hr' hb ?_ ?_) kk
  · simp only [List.toList_toArray, List.mem_map]
    exact ⟨e, he, rfl⟩
  · simp only [List.toList_toArray, List.map_map]
    exact List.pairwise_map.2 hg.born
end
end Go.Ez
