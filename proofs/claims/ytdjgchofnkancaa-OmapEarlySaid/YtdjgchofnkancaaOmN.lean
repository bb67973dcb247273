/-
  OmapTakes: taken in parts all keys come, each once; a range is a part of it: the walk.
-/
import Derived.Test.YtdjgchofnkancaaOmG
import Derived.Test.YtdjgchofnkancaaOmH
namespace Go.Proofs.Ytdjgchofnkancaa
open Go Go.Ez Go.RowKit
set_option linter.unusedSimpArgs false
set_option linter.unusedVariables false

/-- a call of a map -/
structure Call where
  kind : Int
  k : Int
  hi : Int
  v : Txt
def Call.cells (o : Call) : List Value := [.int .i64 o.kind, .int .i64 o.k, .int .i64 o.hi, strV o.v]
def callsC (l : List Call) : List Value := l.flatMap Call.cells
theorem callsC_get : ∀ {l : List Call} {i j : Nat} {o : Call}, l[i]? = some o → j < 4 → (callsC l)[i * 4 + j]? = o.cells[j]?
  | o :: l, 0, j, _, h, hj => by
    cases h
    unfold callsC
    rw [List.flatMap_cons, Nat.zero_mul, Nat.zero_add, List.getElem?_append_left (by show j < 4; exact hj)]
  | o :: l, i + 1, j, q, h, hj => by
    have := callsC_get (l := l) (i := i) (by simpa using h) hj
    unfold callsC at this ⊢
    rw [List.flatMap_cons, List.getElem?_append_right (by show 4 ≤ _; omega)]
    show (l.flatMap Call.cells)[(i + 1) * 4 + j - 4]? = _
    rw [show (i + 1) * 4 + j - 4 = i * 4 + j by omega]
    exact this
/-- the calls' keys, put in -/
def pmap (l : List Call) : List (Int × Txt) := l.foldl (fun m o => putK o.k o.v m) []
theorem pmap_snoc (l : List Call) (o : Call) : pmap (l ++ [o]) = putK o.k o.v (pmap l) := by simp [pmap, List.foldl_append]
theorem putK_len2 {κ β : Type} [OKey κ] [DecidableEq κ] (k : κ) (v : β) (m : List (κ × β)) : (putK k v m).length ≤ m.length + 1 := by
  have := posK_le k m
  unfold putK
  split <;> simp [List.length_take, List.length_drop] <;> omega
theorem pmap_len (l : List Call) : (pmap l).length ≤ l.length := by
  have : ∀ (l : List Call) (m : List (Int × Txt)), (l.foldl (fun m o => putK o.k o.v m) m).length ≤ m.length + l.length := by
    intro l
    induction l with
    | nil => intro m; simp
    | cons o l ih => intro m; have h1 := ih (putK o.k o.v m); have h2 := putK_len2 o.k o.v m; simp only [List.foldl_cons, List.length_cons]; omega
  have := this l []
  rw [List.length_nil, Nat.zero_add] at this
  exact this
theorem pmap_srt (l : List Call) : Srt (pmap l) := by
  have : ∀ (l : List Call) (m : List (Int × Txt)), Srt m → Srt (l.foldl (fun m o => putK o.k o.v m) m) := by
    intro l
    induction l with
    | nil => intro m hm; exact hm
    | cons o l ih => intro m hm; exact ih _ (srt_put hm)
  exact this l [] List.Pairwise.nil
theorem keys_part (lo hi : Int) (m : List (Int × Txt)) : (partM lo hi m).map Prod.fst = (m.map Prod.fst).filter fun a => !OKey.lt a lo && OKey.lt a hi := by
  unfold partM
  rw [List.filter_map]
  rfl
theorem filter_at {α : Type} {q : α → Bool} {l : List α} {i : Nat} {a : α} (h : l[i]? = some a) : (q a = true → (l.filter q)[((l.take i).filter q).length]? = some a) ∧ ((l.take (i + 1)).filter q).length = ((l.take i).filter q).length + (if q a then 1 else 0) := by
  have e : l = l.take i ++ a :: l.drop (i + 1) := by
    conv => lhs; rw [← List.take_append_drop i l]
    rw [List.drop_eq_getElem_cons (List.getElem?_eq_some_iff.1 h).1, (List.getElem?_eq_some_iff.1 h).2]
  constructor
  · intro hq
    conv => lhs; rw [e]
    have hl := (List.getElem?_eq_some_iff.1 h).1
    rw [List.take_append_of_le_length (by rw [List.length_take]; omega), List.take_take, Nat.min_self, List.filter_append, List.getElem?_append_right (Nat.le_refl _), Nat.sub_self, List.filter_cons_of_pos hq]
    rfl
  · rw [List.take_add_one, h, List.filter_append, List.length_append]
    congr 1
    cases hq : q a <;> simp [hq]

section
variable {w : World} {R : Value → World → Prop}
/-- hbllaw2.OmapTakes -/
theorem takes_spec {l : List Call} {v : Value} {n : Nat} {cnt lo hi : Int} (hv : Sl w 4 v n (callsC l)) (hn : n = l.length) (hbig : l.length ≤ 9223372036854775807)
    (h : ∀ w', Below w.heap.size w w' → R (.bool true) w') : CallF Try.prog 4 #[v, .int .i64 cnt, .int .i64 lo, .int .i64 hi] w R := by
  refine sh4_calls ?_
  unfold sh4
  subst hn
  have hR := h
  have h := St.start w
  refine first2_spec fun W m => ?_
  replace h := h.ext m
  (repeat (first | (with_reducible refine ift ?_) | (with_reducible refine iff' ?_) | (with_reducible refine a_lss ?_) | (with_reducible refine a_leq ?_) | (with_reducible refine a_gtr ?_) | (with_reducible refine a_geq ?_) | (with_reducible refine w_eql ?_) | (with_reducible refine w_neq ?_) | (with_reducible refine s_eql ?_) | (with_reducible refine s_neq ?_) | ((with_reducible refine a_add64 ?h0 ?h1 ?_); (case h0 => omega); (case h1 => omega);  skip) | ((with_reducible refine a_sub64 ?h0 ?h1 ?_); (case h0 => omega); (case h1 => omega);  skip) | ((with_reducible refine a_mul64 ?h0 ?h1 ?_); (case h0 => omega); (case h1 => omega);  skip) | (with_reducible refine a_notd ?_) | (with_reducible refine a_not ?_) | (with_reducible refine a_ext0 ?_) | (with_reducible refine a_ext1 ?_) | (with_reducible refine a_ext2 ?_) | (with_reducible refine x_len ?_) | (with_reducible refine x_lens ?_) | (with_reducible refine x_eqb ?_) | (with_reducible refine x_neb ?_) | (with_reducible refine x_nilP ?_) | (with_reducible refine x_nilPn ?_) | (with_reducible refine x_nilF ?_) | (with_reducible refine x_nilFF ?_) | (with_reducible refine w_eqlL ?_) | (with_reducible refine w_neqL ?_) | (with_reducible refine s_eqlL ?_) | (with_reducible refine ifnt ?_) | (with_reducible refine ifnf ?_) | (with_reducible refine x_eqB ?_) | (with_reducible refine x_neB ?_) | (with_reducible refine x_lssL ?_) | (with_reducible refine x_gtrL ?_) | (with_reducible refine x_geqL ?_) | (with_reducible refine s_neqL ?_) | (with_reducible refine St.load h ?_) | (with_reducible refine St.loadS h ?_) | (with_reducible refine a_fld0 ?_) | (with_reducible refine St.store h fun W h => ?_) | (with_reducible refine St.storeS h fun W h => ?_) | (with_reducible refine St.alloc h fun b W h => ?_) | (with_reducible refine St.allocS h fun b W h => ?_) | (with_reducible refine a_nil ?_) | (with_reducible refine ss_load ?_) | (with_reducible refine ss_loadS ?_) | (with_reducible refine ss_eqb ?_)))
  refine newis_spec h fun mv W h => ?_
  obtain ⟨b, rfl, _⟩ := h.ptrM (v := mv)
  have bad : ∀ W, St w G0 [Ky (.pointer (some ⟨b, 0, none⟩) : Value) (Mpis [])] W → RunW Try.prog (bin .neq 41 (.tmp 34) (.const (.pointer none)) (.pointer (some ⟨b, 0, none⟩)) (.pointer none)) W fun x => IfB x (CallF Try.prog 14 #[] W fun x w => R x w) (R (.bool false) W) := by
    intro W h
    (repeat (first | (with_reducible refine ift ?_) | (with_reducible refine iff' ?_) | (with_reducible refine a_lss ?_) | (with_reducible refine a_leq ?_) | (with_reducible refine a_gtr ?_) | (with_reducible refine a_geq ?_) | (with_reducible refine w_eql ?_) | (with_reducible refine w_neq ?_) | (with_reducible refine s_eql ?_) | (with_reducible refine s_neq ?_) | ((with_reducible refine a_add64 ?h0 ?h1 ?_); (case h0 => omega); (case h1 => omega);  skip) | ((with_reducible refine a_sub64 ?h0 ?h1 ?_); (case h0 => omega); (case h1 => omega);  skip) | ((with_reducible refine a_mul64 ?h0 ?h1 ?_); (case h0 => omega); (case h1 => omega);  skip) | (with_reducible refine a_notd ?_) | (with_reducible refine a_not ?_) | (with_reducible refine a_ext0 ?_) | (with_reducible refine a_ext1 ?_) | (with_reducible refine a_ext2 ?_) | (with_reducible refine x_len ?_) | (with_reducible refine x_lens ?_) | (with_reducible refine x_eqb ?_) | (with_reducible refine x_neb ?_) | (with_reducible refine x_nilP ?_) | (with_reducible refine x_nilPn ?_) | (with_reducible refine x_nilF ?_) | (with_reducible refine x_nilFF ?_) | (with_reducible refine w_eqlL ?_) | (with_reducible refine w_neqL ?_) | (with_reducible refine s_eqlL ?_) | (with_reducible refine ifnt ?_) | (with_reducible refine ifnf ?_) | (with_reducible refine x_eqB ?_) | (with_reducible refine x_neB ?_) | (with_reducible refine x_lssL ?_) | (with_reducible refine x_gtrL ?_) | (with_reducible refine x_geqL ?_) | (with_reducible refine s_neqL ?_) | (with_reducible refine St.load h ?_) | (with_reducible refine St.loadS h ?_) | (with_reducible refine a_fld0 ?_) | (with_reducible refine St.store h fun W h => ?_) | (with_reducible refine St.storeS h fun W h => ?_) | (with_reducible refine St.alloc h fun b W h => ?_) | (with_reducible refine St.allocS h fun b W h => ?_) | (with_reducible refine a_nil ?_) | (with_reducible refine ss_load ?_) | (with_reducible refine ss_loadS ?_) | (with_reducible refine ss_eqb ?_)))
    refine ift ?_
    exact first2_spec fun W m => hR W (h.ext m).low
  (repeat (first | (with_reducible refine ift ?_) | (with_reducible refine iff' ?_) | (with_reducible refine a_lss ?_) | (with_reducible refine a_leq ?_) | (with_reducible refine a_gtr ?_) | (with_reducible refine a_geq ?_) | (with_reducible refine w_eql ?_) | (with_reducible refine w_neq ?_) | (with_reducible refine s_eql ?_) | (with_reducible refine s_neq ?_) | ((with_reducible refine a_add64 ?h0 ?h1 ?_); (case h0 => omega); (case h1 => omega);  skip) | ((with_reducible refine a_sub64 ?h0 ?h1 ?_); (case h0 => omega); (case h1 => omega);  skip) | ((with_reducible refine a_mul64 ?h0 ?h1 ?_); (case h0 => omega); (case h1 => omega);  skip) | (with_reducible refine a_notd ?_) | (with_reducible refine a_not ?_) | (with_reducible refine a_ext0 ?_) | (with_reducible refine a_ext1 ?_) | (with_reducible refine a_ext2 ?_) | (with_reducible refine x_len ?_) | (with_reducible refine x_lens ?_) | (with_reducible refine x_eqb ?_) | (with_reducible refine x_neb ?_) | (with_reducible refine x_nilP ?_) | (with_reducible refine x_nilPn ?_) | (with_reducible refine x_nilF ?_) | (with_reducible refine x_nilFF ?_) | (with_reducible refine w_eqlL ?_) | (with_reducible refine w_neqL ?_) | (with_reducible refine s_eqlL ?_) | (with_reducible refine ifnt ?_) | (with_reducible refine ifnf ?_) | (with_reducible refine x_eqB ?_) | (with_reducible refine x_neB ?_) | (with_reducible refine x_lssL ?_) | (with_reducible refine x_gtrL ?_) | (with_reducible refine x_geqL ?_) | (with_reducible refine s_neqL ?_) | (with_reducible refine St.load h ?_) | (with_reducible refine St.loadS h ?_) | (with_reducible refine a_fld0 ?_) | (with_reducible refine St.store h fun W h => ?_) | (with_reducible refine St.storeS h fun W h => ?_) | (with_reducible refine St.alloc h fun b W h => ?_) | (with_reducible refine St.allocS h fun b W h => ?_) | (with_reducible refine a_nil ?_) | (with_reducible refine ss_load ?_) | (with_reducible refine ss_loadS ?_) | (with_reducible refine ss_eqb ?_)))
  refine iff' ?_
  refine x_lenS hv ?_
  refine a_gtr (ifd (fun hc => bad W h) fun hc => ?_)
  refine a_lss (ifd (fun hc => bad W h) fun hc1 => ?_)
  refine a_gtr (ifd (fun hc => bad W h) fun hc2 => ?_)
  have hl : l.length ≤ 300 := by omega
  clear bad
  refine lpx (α := Nat) (fun i => [nV .i64 i]) (fun i W => i ≤ l.length ∧ St w G0 [Ky (.pointer (some ⟨b, 0, none⟩) : Value) (Mpis (pmap (l.take i)))] W) (fun i => l.length - i) 0 (fun _ => rfl) rfl ⟨Nat.zero_le _, h⟩ ?_
  rintro next i W hnext ⟨hi', h⟩
  refine app1 ?_
  have hml := pmap_len (l.take i)
  rw [List.length_take] at hml
  refine x_lenS hv ?_
  refine a_lss (ifd (fun hc => ?_) fun hc => ?_)
  · obtain ⟨o, ho⟩ : ∃ o, l[i]? = some o := ⟨_, List.getElem?_eq_getElem (by omega)⟩
    refine ⟨fun W' => W' = W.drew, rfl, ?_⟩
    replace h := h.drew
    refine x_sfld (w1 := W.drew) (h.sl0 hv) (fun _ e => by subst e; exact h.sl0 hv) (by omega) (by decide) ((callsC_get ho (by decide)).trans rfl) ?_
    refine x_sfld (w1 := W.drew) (h.sl0 hv) (fun _ e => by subst e; exact h.sl0 hv) (by omega) (by decide) ((callsC_get ho (by decide)).trans rfl) ?_
    refine putis_spec (v := (.pointer (some ⟨b, 0, none⟩) : Value)) (k := o.k) (x := o.v) h (by omega) fun W h => ?_
    (repeat (first | (with_reducible refine ift ?_) | (with_reducible refine iff' ?_) | (with_reducible refine a_lss ?_) | (with_reducible refine a_leq ?_) | (with_reducible refine a_gtr ?_) | (with_reducible refine a_geq ?_) | (with_reducible refine w_eql ?_) | (with_reducible refine w_neq ?_) | (with_reducible refine s_eql ?_) | (with_reducible refine s_neq ?_) | ((with_reducible refine a_add64 ?h0 ?h1 ?_); (case h0 => omega); (case h1 => omega);  skip) | ((with_reducible refine a_sub64 ?h0 ?h1 ?_); (case h0 => omega); (case h1 => omega);  skip) | ((with_reducible refine a_mul64 ?h0 ?h1 ?_); (case h0 => omega); (case h1 => omega);  skip) | (with_reducible refine a_notd ?_) | (with_reducible refine a_not ?_) | (with_reducible refine a_ext0 ?_) | (with_reducible refine a_ext1 ?_) | (with_reducible refine a_ext2 ?_) | (with_reducible refine x_len ?_) | (with_reducible refine x_lens ?_) | (with_reducible refine x_eqb ?_) | (with_reducible refine x_neb ?_) | (with_reducible refine x_nilP ?_) | (with_reducible refine x_nilPn ?_) | (with_reducible refine x_nilF ?_) | (with_reducible refine x_nilFF ?_) | (with_reducible refine w_eqlL ?_) | (with_reducible refine w_neqL ?_) | (with_reducible refine s_eqlL ?_) | (with_reducible refine ifnt ?_) | (with_reducible refine ifnf ?_) | (with_reducible refine x_eqB ?_) | (with_reducible refine x_neB ?_) | (with_reducible refine x_lssL ?_) | (with_reducible refine x_gtrL ?_) | (with_reducible refine x_geqL ?_) | (with_reducible refine s_neqL ?_) | (with_reducible refine St.load h ?_) | (with_reducible refine St.loadS h ?_) | (with_reducible refine a_fld0 ?_) | (with_reducible refine St.store h fun W h => ?_) | (with_reducible refine St.storeS h fun W h => ?_) | (with_reducible refine St.alloc h fun b W h => ?_) | (with_reducible refine St.allocS h fun b W h => ?_) | (with_reducible refine a_nil ?_) | (with_reducible refine ss_load ?_) | (with_reducible refine ss_loadS ?_) | (with_reducible refine ss_eqb ?_)))
    refine ⟨rfl, rfl, rfl, rfl, rfl, ?_⟩
    rw [show ((i : Int) + 1) = ((i + 1 : Nat) : Int) by push_cast; rfl]
    refine hnext (i + 1) W (by omega) ⟨by omega, ?_⟩
    rw [List.take_add_one, ho]
    rw [show (some o).toList = [o] from rfl, pmap_snoc]
    exact h
  have hil : i = l.length := by omega
  subst hil
  rw [List.take_length] at h hml
  generalize pmap l = m at *
  have hkl : (m.map Prod.fst).length ≤ 300 := by rw [List.length_map]; omega
  have etell : ∀ (r : List (Int × Txt)), (tellis r).map (List.take 1) = (r.map Prod.fst).map fun k => [Enc.enc k] := fun r => by simp [tellis]
  have len2 : ∀ (r : List (Int × Txt)), ∀ x ∈ tellis r, x.length = 2 := fun r x hx => by obtain ⟨p, _, rfl⟩ := List.mem_map.1 hx; rfl
  have hpl : (partM lo hi m).length ≤ m.length := List.length_filter_le _ _
  refine allis_spec (v := .pointer (some ⟨b, 0, none⟩)) h (by omega) fun f1 b1 W hI h => ?_
  refine keysis_spec (f := f1) hI (len2 _) h fun f2 b2 W hI h => ?_
  rw [etell] at hI
  refine takeis_spec (f := f2) (ks := m.map Prod.fst) (n := 400) hI h (by omega) fun va W oa h => ?_
  rw [show (m.map Prod.fst).take (400 : Int).toNat = m.map Prod.fst from List.take_of_length_le (by show _ ≤ 400; omega)] at h
  replace h := (h.untwo (k := f2)).untwo (k := f1)
  refine range_spec (v := .pointer (some ⟨b, 0, none⟩)) h (by omega) fun f3 b3 b4 b5 W hI h => ?_
  refine keysis_spec (f := f3) hI (len2 _) h fun f4 b6 W hI h => ?_
  rw [etell] at hI
  refine takeis_spec (f := f4) (ks := (partM lo hi m).map Prod.fst) (n := 400) hI h (by rw [List.length_map]; omega) fun vb W ob h => ?_
  rw [show ((partM lo hi m).map Prod.fst).take (400 : Int).toNat = (partM lo hi m).map Prod.fst from List.take_of_length_le (by show _ ≤ 400; rw [List.length_map]; omega)] at h
  replace h := h.untwo (k := f4)
  replace h := (St.open4 (h.find (k := f3) (X := ItR b3 b4 b5 (.pointer (some ⟨b, 0, none⟩)) lo hi m))).2
  refine allis_spec (v := .pointer (some ⟨b, 0, none⟩)) h (by omega) fun f5 b7 W hI h => ?_
  refine keysis_spec (f := f5) hI (len2 _) h fun f6 b8 W hI h => ?_
  rw [etell] at hI
  refine takeis_spec (f := f6) (ks := m.map Prod.fst) (n := cnt) hI h (by omega) fun vc W oc h => ?_
  replace h := (h.untwo (k := f6)).untwo (k := f5)
  rw [keys_part] at h
  have hlm : (m.map Prod.fst).length = m.length := List.length_map ..
  have hm : ∀ {W : World}, _ → _ := fun {W : World} (h : St w G0 [Ky (.pointer (some ⟨b, 0, none⟩) : Value) (Mpis m)] W) => h
  generalize hks : m.map Prod.fst = ks at *
  have h' : St w G0 [Ky va (Ow 3 1 ks.length (ks.map Enc.enc)), Ky vb (Ow 3 1 (ks.filter fun a => !OKey.lt a lo && OKey.lt a hi).length ((ks.filter fun a => !OKey.lt a lo && OKey.lt a hi).map Enc.enc)), Ky vc (Ow 3 1 (ks.take cnt.toNat).length ((ks.take cnt.toNat).map Enc.enc)), Ky (.pointer (some ⟨b, 0, none⟩) : Value) (Mpis m)] W := h.to
  clear h
  generalize hq : (fun a : Int => !OKey.lt a lo && OKey.lt a hi) = q at *
  have hfl : (ks.filter q).length ≤ ks.length := List.length_filter_le _ _
  refine lpx (α := Nat) (fun i => [nV .i64 ((ks.take i).filter q).length, nV .i64 i]) (fun i W => i ≤ ks.length ∧ St w G0 [Ky va (Ow 3 1 ks.length (ks.map Enc.enc)), Ky vb (Ow 3 1 (ks.filter q).length ((ks.filter q).map Enc.enc)), Ky vc (Ow 3 1 (ks.take cnt.toNat).length ((ks.take cnt.toNat).map Enc.enc)), Ky (.pointer (some ⟨b, 0, none⟩) : Value) (Mpis m)] W)
    (fun i => ks.length - i) 0 (fun _ => rfl) rfl ⟨Nat.zero_le _, h'⟩ ?_
  clear h' hm
  rintro next i W hnext ⟨hi', h⟩
  refine app2 ?_
  refine x_lenS (h.osl (v := va)) ?_
  refine a_lss (ifd (fun hc => ?_) fun hc => ?_)
  · obtain ⟨a, ha⟩ : ∃ a, ks[i]? = some a := ⟨_, List.getElem?_eq_getElem (by omega)⟩
    have hav : (ks.map (Enc.enc (κ := Int)))[i]? = some (Enc.enc a) := by rw [List.getElem?_map, ha]; rfl
    obtain ⟨f1, f2⟩ := filter_at (q := q) ha
    have hfi : ((ks.take i).filter q).length ≤ (ks.take i).length := List.length_filter_le _ _
    rw [List.length_take] at hfi
    refine jni (fun vs W => vs = [.int .i64 cnt, .int .i64 lo, .int .i64 hi, .pointer (some ⟨b, 0, none⟩), va, vb, vc, nV .i64 ((ks.take (i + 1)).filter q).length, nV .i64 i] ∧ St w G0 [Ky va (Ow 3 1 ks.length (ks.map Enc.enc)), Ky vb (Ow 3 1 (ks.filter q).length ((ks.filter q).map Enc.enc)), Ky vc (Ow 3 1 (ks.take cnt.toNat).length ((ks.take cnt.toNat).map Enc.enc)), Ky (.pointer (some ⟨b, 0, none⟩) : Value) (Mpis m)] W) ?_ ?_
    · rintro vs W _ ⟨rfl, h⟩
      refine app9 ?_
      refine a_add64 (by omega) (by omega) ⟨rfl, rfl, rfl, rfl, rfl, rfl, rfl, ?_⟩
      rw [show ((i : Int) + 1) = ((i + 1 : Nat) : Int) by push_cast; rfl]
      exact hnext (i + 1) W (by omega) ⟨by omega, h⟩
    have no : q a = false → ((ks.take (i + 1)).filter q).length = ((ks.take i).filter q).length := fun hq => by rw [f2, hq]; rfl
    have hqa : q a = (!OKey.lt a lo && OKey.lt a hi) := by rw [← hq]
    refine x_at (h.osl (v := va)) hav ?_
    refine a_geq (ifd (fun hc1 => ?_) fun hc1 => ?_)
    · refine x_at (h.osl (v := va)) hav ?_
      refine a_lss (ifd (fun hc2 => ?_) fun hc2 => ?_)
      · have hq1 : q a = true := by
          rw [hqa]
          have e1 : OKey.lt a lo = false := decide_eq_false (by omega)
          have e2 : OKey.lt a hi = true := decide_eq_true hc2
          rw [e1, e2]; rfl
        have g1 := f1 hq1
        have g1l := (List.getElem?_eq_some_iff.1 g1).1
        have gv : ((ks.filter q).map (Enc.enc (κ := Int)))[((ks.take i).filter q).length]? = some (Enc.enc a) := by rw [List.getElem?_map, g1]; rfl
        refine ⟨fun W' => W' = W.drew, rfl, ?_⟩
        replace h := h.drew
        refine x_lenSs (h.osl (v := vb)) ?_
        refine a_geq (ifd_neg (by omega) ?_)
        refine x_sat (h.osl (v := vb)) (fun _ e => by subst e; exact h.osl (v := vb)) gv ?_
        refine x_sat (h.osl (v := va)) (fun _ e => by subst e; exact h.osl (v := va)) hav ?_
        refine s_neq (ifd_neg (by simp) ?_)
        refine a_add64 (by omega) (by omega) ?_
        rw [hq1] at f2
        refine ⟨?_, h⟩
        rw [f2]
        rfl
      · have hq0 : q a = false := by
          rw [hqa]
          have e2 : OKey.lt a hi = false := decide_eq_false hc2
          rw [e2, Bool.and_false]
        exact ⟨by rw [no hq0], h⟩
    · have hq0 : q a = false := by
        rw [hqa]
        have e2 : OKey.lt a lo = true := decide_eq_true (by omega)
        rw [e2]; rfl
      exact ⟨by rw [no hq0], h⟩
  · have hil : i = ks.length := by omega
    subst hil
    rw [List.take_length]
    refine first2_spec fun W m' => ?_
    replace h := h.ext m'
    (repeat (first | (with_reducible refine ift ?_) | (with_reducible refine iff' ?_) | (with_reducible refine a_lss ?_) | (with_reducible refine a_leq ?_) | (with_reducible refine a_gtr ?_) | (with_reducible refine a_geq ?_) | (with_reducible refine w_eql ?_) | (with_reducible refine w_neq ?_) | (with_reducible refine s_eql ?_) | (with_reducible refine s_neq ?_) | ((with_reducible refine a_add64 ?h0 ?h1 ?_); (case h0 => omega); (case h1 => omega);  skip) | ((with_reducible refine a_sub64 ?h0 ?h1 ?_); (case h0 => omega); (case h1 => omega);  skip) | ((with_reducible refine a_mul64 ?h0 ?h1 ?_); (case h0 => omega); (case h1 => omega);  skip) | (with_reducible refine a_notd ?_) | (with_reducible refine a_not ?_) | (with_reducible refine a_ext0 ?_) | (with_reducible refine a_ext1 ?_) | (with_reducible refine a_ext2 ?_) | (with_reducible refine x_len ?_) | (with_reducible refine x_lens ?_) | (with_reducible refine x_eqb ?_) | (with_reducible refine x_neb ?_) | (with_reducible refine x_nilP ?_) | (with_reducible refine x_nilPn ?_) | (with_reducible refine x_nilF ?_) | (with_reducible refine x_nilFF ?_) | (with_reducible refine w_eqlL ?_) | (with_reducible refine w_neqL ?_) | (with_reducible refine s_eqlL ?_) | (with_reducible refine ifnt ?_) | (with_reducible refine ifnf ?_) | (with_reducible refine x_eqB ?_) | (with_reducible refine x_neB ?_) | (with_reducible refine x_lssL ?_) | (with_reducible refine x_gtrL ?_) | (with_reducible refine x_geqL ?_) | (with_reducible refine s_neqL ?_) | (with_reducible refine St.load h ?_) | (with_reducible refine St.loadS h ?_) | (with_reducible refine a_fld0 ?_) | (with_reducible refine St.store h fun W h => ?_) | (with_reducible refine St.storeS h fun W h => ?_) | (with_reducible refine St.alloc h fun b W h => ?_) | (with_reducible refine St.allocS h fun b W h => ?_) | (with_reducible refine a_nil ?_) | (with_reducible refine ss_load ?_) | (with_reducible refine ss_loadS ?_) | (with_reducible refine ss_eqb ?_)))
    refine x_lenS (h.osl (v := vb)) ?_
    refine w_eql (ifd_pos rfl ?_)
    refine x_lenS (h.osl (v := va)) ?_
    refine lenis_spec (v := .pointer (some ⟨b, 0, none⟩)) h ?_
    refine w_eql (ifd_pos (by omega) ?_)
    refine x_lenS (h.osl (v := va)) ?_
    refine w_min ?_
    obtain ⟨cnt, rfl⟩ := Int.eq_ofNat_of_zero_le (show 0 ≤ cnt by omega)
    rw [show min (cnt : Int) ((ks.length : Nat) : Int) = ((min cnt ks.length : Nat) : Int) by omega]
    refine a_sliceH (SlT.el (P := Try.prog) (t := 46)) (h.osl (v := va)) (by omega) (by omega) fun v' hv' => ?_
    simp only [Int.toNat_natCast, Nat.mul_one] at hv'
    have e : (ks.map (Enc.enc (κ := Int))).take (min cnt ks.length) = (ks.take cnt).map Enc.enc := by
      rw [← List.map_take]
      congr 1
      rcases Nat.le_total cnt ks.length with hc | hc
      · rw [Nat.min_eq_left hc]
      · rw [Nat.min_eq_right hc, List.take_length, List.take_of_length_le hc]
    rw [e] at hv'
    refine eqis_spec (xs := ks.take cnt) (ys := ks.take cnt) (h.osl (v := vc)) hv' (by rw [List.length_take]; omega) fun W m' => ?_
    rw [decide_eq_true rfl]
    exact hR W (h.ext m').low
end
end Go.Proofs.Ytdjgchofnkancaa
