/-
  FILES THAT FALL: all bytes, a file's bytes, the names, rising: what each function answers.
-/
import Derived.Test.YtdoopdbfajgnjaaDkD
import Derived.Test.YtdoopdbfajgnjaaEzIter
import Derived.Test.YtdoopdbfajgnjaaDkShf
import Derived.Sort.OwnSorted
namespace Go.Ez
open Go Go.Proofs Go.RowKit
set_option linter.unusedSimpArgs false
set_option linter.unusedVariables false
theorem sum_perm {a b : List Nat} (h : a.Perm b) : a.sum = b.sum := by
  induction h with
  | nil => rfl
  | cons x _ ih => simp [ih]
  | swap x y l => simp only [List.sum_cons]; omega
  | trans _ _ h1 h2 => exact h1.trans h2
def sumG (E : List Ge) : Nat := (E.map fun e => e.2.2.2.length).sum
theorem sumG_snoc (a : List Ge) (e : Ge) : sumG (a ++ [e]) = sumG a + e.2.2.2.length := by simp [sumG]
theorem GmOk.sum {zs : Zs} {m : Fm} {E : List Ge} {c : Nat} (h : GmOk zs m E c) {told : List Ge} (hp : told.Perm E) : sumG told = tot m := by
  have h1 := sum_perm (hp.map fun e => e.2.2.2.length)
  have h2 := sum_perm (h.perm.map fun p => p.2.length)
  rw [List.map_map] at h2
  exact h1.trans h2
theorem Tld.sum {E told : List Ge} (h : Tld E told) : sumG told ≤ sumG E := by
  obtain ⟨r, h⟩ := h
  have := sum_perm (h.map fun e => e.2.2.2.length)
  rw [List.map_append, List.sum_append] at this
  unfold sumG; omega

/-! ### iterators whose order is drawn -/
section
variable (P : Program) (w0 : World) (G : Nat → Prop)
def YlQ (yv : Value) (Q : List (List Value) → Prop) (C D : List (List Value) → As) : Prop :=
  ∀ told x, (∃ rest, Q (told ++ x :: rest)) → ∀ (I : List As) (W : World) (K : Value → World → Prop), St w0 G (Ky told C :: I) W →
    (∀ W', St w0 G (Ky (told ++ [x]) C :: I) W' → K (.bool true) W') → (∀ W', St w0 G (Ky (told ++ [x]) D :: I) W' → K (.bool false) W') → CallV P yv x.toArray W K
def ItrQ (f : Value) (Q : List (List Value) → Prop) (A : Value → As) : Prop :=
  ∃ gf lb, f = .func (.func gf) #[] lb ∧ Enters P gf ∧ ∀ (yv : Value) (C D : List (List Value) → As) (I : List As) (W : World) (R : Value → World → Prop), Cel1 yv → YlQ P w0 G yv Q C D → St w0 G (Ky ([] : List (List Value)) C :: Ky f A :: I) W →
    (∀ xs W', Q xs → St w0 G (Ky xs C :: Ky f A :: I) W' → R (.tuple #[]) W') → (∀ told W', St w0 G (Ky told D :: Ky f A :: I) W' → R (.tuple #[]) W') → CallF P gf (#[yv] ++ lb) W R
end
section
variable {P : Program} {w0 W : World} {G : Nat → Prop} {l R : List As}
theorem rngQ {np nl : Nat} {asg : Nat → FnN nl → FnN np} {bdy : Nat → (World → Prop) → (Code → World → Prop) → FnN nl} {f : Value} {kdone : Nat → World → Prop} {kstop : Nat → Code → World → Prop} {Q : List (List Value) → Prop} {A : Value → As}
    (C : List (List Value) → As) (hI : ItrQ P w0 G f Q A) (hx : ∀ told x rest, Q (told ++ x :: rest) → x.length = np) (h : St w0 G (Ky ([] : List (List Value)) C :: Ky f A :: l) W)
    (hbody : ∀ told x, (∃ rest, Q (told ++ x :: rest)) → ∀ (ll : Nat) (rec : LoopState → Option Code → Loop) (I : List As) (W : World) (kn : World → Prop) (ks : Code → World → Prop), St w0 G (Ky ll (Ob (.loop (rec .ready none))) :: Ky told C :: I) W →
      (∀ W', St w0 G (Ky ll (Ob (.loop (rec .busy none))) :: Ky (told ++ [x]) C :: I) W' → kn W') →
      appN np (asg ll (lamN nl fun vs W2 => W2.heap[ll]? = some (.loop (rec .ready none)) ∧ appN nl (bdy ll kn ks) vs (W2.putObj ll (.loop (rec .busy none))))) x W)
    (hdone : ∀ D xs W', Q xs → St w0 G (Ky D (Ob (.deferred (some []))) :: Ky xs C :: Ky f A :: l) W' → kdone D W') :
    rngP P none np nl asg bdy f W kdone kstop := by
  obtain ⟨gf, lb, rfl, hen, hrun⟩ := hI
  refine ⟨(fun l0 hl0 => nomatch hl0), gf, lb, rfl, hen, ?_⟩
  intro ll D rec W1 hll hlt hD hW1 hL hDD hround
  obtain ⟨hD1, hD2⟩ := hD rfl
  have hDD := hDD rfl
  have h1 : St w0 G (As.all True [Ky ll (Ob (.loop (rec .ready none))), Ky D (Ob (.deferred (some [])))] :: Ky ([] : List (List Value)) C :: Ky (.func (.func gf) #[] lb) A :: l) W1 := by
    refine h.new (F := fun x => x = ll ∨ x = D) hW1 ⟨trivial, fun x => x = ll, fun x => x = D, ⟨fun _ => Iff.rfl, hL⟩, ⟨fun x => x = D, fun _ => False, ⟨fun _ => Iff.rfl, hDD⟩, fun _ h => h, fun _ _ h => h, fun _ => by simp⟩, fun b h1 h2 => by omega, fun _ => Iff.rfl⟩ ?_
    rintro b (rfl | rfl) <;> omega
  have h2 : St w0 G (Ky ll (Ob (.loop (rec .ready none))) :: Ky D (Ob (.deferred (some []))) :: Ky ([] : List (List Value)) C :: Ky (.func (.func gf) #[] lb) A :: l) W1 := h1.openA.2
  let C' : List (List Value) → As := fun i => As.all True [Ky ll (Ob (.loop (rec .ready none))), Ky i C]
  let D' : List (List Value) → As := fun i => As.all False []
  have h3 : St w0 G (Ky ([] : List (List Value)) C' :: Ky (.func (.func gf) #[] lb) A :: Ky D (Ob (.deferred (some []))) :: l) W1 := by
    refine St.shutA trivial (?_ : St w0 G (Ky ll (Ob (.loop (rec .ready none))) :: Ky ([] : List (List Value)) C :: Ky (.func (.func gf) #[] lb) A :: Ky D (Ob (.deferred (some []))) :: l) W1)
    obtain ⟨F, hF, hG⟩ := h2.own
    exact { h2 with own := ⟨F, sepL_mono (fun F w h => sepL_mono (fun F w h => sepL_swap h) (sepL_swap h)) hF, hG⟩ }
  refine hrun (.func (.yield ll) #[] #[]) C' D' (Ky D (Ob (.deferred (some []))) :: l) W1 _ ⟨rfl⟩ ?_ h3 ?_ ?_
  · intro told x hex I W K h kt kf
    have h4 : St w0 G (Ky ll (Ob (.loop (rec .ready none))) :: Ky told C :: I) W := (St.openA (show St w0 G (As.all True [Ky ll (Ob (.loop (rec .ready none))), Ky told C] :: I) W from h)).2
    obtain ⟨rest, hq⟩ := id hex
    refine hround x W K (hx told x rest hq) (h4.ob (b := ll)) ?_
    refine hbody told x hex ll rec I W _ _ h4 (fun W' h5 => ?_)
    refine ⟨h5.ob (b := ll), kt _ ?_⟩
    exact St.shutA (L := [Ky ll (Ob (.loop (rec .ready none))), Ky (told ++ [x]) C]) trivial (h5.putO (b := ll) (o := .loop (rec .busy none)) (.loop (rec .ready none)))
  · intro xs W' hq h4
    have h5 : St w0 G (Ky ll (Ob (.loop (rec .ready none))) :: Ky xs C :: Ky (.func (.func gf) #[] lb) A :: Ky D (Ob (.deferred (some []))) :: l) W' := (St.openA (show St w0 G (As.all True [Ky ll (Ob (.loop (rec .ready none))), Ky xs C] :: _) W' from h4)).2
    refine Or.inl ⟨h5.ob (b := ll), hdone D xs _ hq ?_⟩
    exact (h5.putO (b := ll) (o := .loop (rec .ready none)) (.loop (rec .exhausted none))).to
  · intro told W' h4
    exact (St.openA (show St w0 G (As.all False [] :: _) W' from h4)).1.elim
end

theorem mem_keys {k : Txt} {m : Fm} : k ∈ m.map Prod.fst ↔ getK k m ≠ none := by
  constructor
  · intro h hn
    obtain ⟨p, hp, rfl⟩ := List.mem_map.1 h
    exact getK_none hn p.2 hp
  · intro h
    obtain ⟨v, hv⟩ := Option.ne_none_iff_exists'.1 h
    exact List.mem_map.2 ⟨_, getK_mem hv, rfl⟩
theorem fm_ext {m n : Fm} (hm : Srt m) (hn : Srt n) (hk : m.map Prod.fst = n.map Prod.fst) (he : ∀ k ∈ m.map Prod.fst, gt k m = gt k n) : m = n := by
  refine srt_ext hm hn fun k => ?_
  by_cases h : k ∈ m.map Prod.fst
  · have h1 := mem_keys.1 h
    have h2 := mem_keys.1 (hk ▸ h)
    obtain ⟨v, hv⟩ := Option.ne_none_iff_exists'.1 h1
    obtain ⟨u, hu⟩ := Option.ne_none_iff_exists'.1 h2
    have := he k h
    unfold gt at this
    rw [hv, hu] at this ⊢
    exact congrArg some this
  · have h1 : getK k m = none := Classical.byContradiction fun hx => h (mem_keys.2 hx)
    have h2 : getK k n = none := Classical.byContradiction fun hx => h (hk ▸ mem_keys.2 hx)
    rw [h1, h2]

/-! ### sorted -/
theorem lt_bl : ∀ (a b : Txt), a < b ↔ Op.bytesLess a b = true
  | [], [] => by simp [Op.bytesLess]
  | [], b :: y => by simp [Op.bytesLess]
  | a :: x, [] => by simp [Op.bytesLess]
  | a :: x, b :: y => by
    rw [List.cons_lt_cons_iff, lt_bl x y]
    simp [Op.bytesLess]
theorem le_bl (a b : Txt) : a ≤ b ↔ Op.bytesLess b a = false := by
  rw [← Bool.not_eq_true, ← lt_bl, List.not_lt]
theorem srt_sorted {m : Fm} {ss : List Txt} (hs : Srt m) (hp : ss.Perm (m.map Prod.fst)) : ss.mergeSort (fun x y => decide (x ≤ y)) = m.map Prod.fst := by
  have h1 : (m.map Prod.fst).Pairwise (fun a b => Op.bytesLess a b = true) := List.pairwise_map.2 hs
  have h2 : (m.map Prod.fst).Pairwise (fun a b => decide (a ≤ b) = true) := h1.imp fun {a b} h => decide_eq_true ((le_bl a b).2 (OKey.asym (κ := Txt) h))
  have h3 : (ss.mergeSort fun x y => decide (x ≤ y)).Pairwise (fun a b => decide (a ≤ b) = true) := List.pairwise_mergeSort (fun a b c hab hbc => by
      simp only [decide_eq_true_eq] at *
      exact List.le_trans hab hbc) (fun a b => by
      simp only [Bool.or_eq_true, decide_eq_true_eq]
      exact List.le_total a b) ss
  refine List.Perm.eq_of_pairwise (le := fun a b => decide (a ≤ b) = true) ?_ h3 h2 ((List.mergeSort_perm ss _).trans hp)
  intro a b _ _ hab hba
  simp only [decide_eq_true_eq] at hab hba
  exact List.le_antisymm hab hba
end Go.Ez
namespace Go.Proofs.Ytdoopdbfajgnjaa
open Go Go.Ez Go.RowKit
set_option linter.unusedSimpArgs false
set_option linter.unusedVariables false
/-- bytes of one's own -/
abbrev BO (x : Txt) : Value → As := Ow 5 1 x.length (bytesV x)
section
variable {w0 W : World} {l R : List As} {d d' : Dd} {v v' : Value} {RR : Value → World → Prop}
/-- Used -/
theorem used_spec (hz : DkZ d W v) (k : ∀ W', Below W.heap.size W W' → RR (nV .i64 (tot d.now)) W') : CallF Try.prog 12 #[v] W RR := by
  refine sh12_calls ?_
  unfold sh12
  obtain ⟨b, nb, db, pv, ev, E, c, zs, rfl, hV, hr, hm, hg, hz⟩ := hz
  have htot := hV.now.tot
  have hsum := hg.sum (List.Perm.refl E)
  refine a_nil (a_fld0 (w_ldR hr rfl ?_))
  refine (St.start W).rangeM hm fun r W1 h => ?_
  refine lpx (α := List Ge) (fun told => [nV .i64 (sumG told)]) (fun told W' => Tld E told ∧ St W G0 [Ky r (Ob (itO nb c told c))] W') (fun told => E.length - told.length) [] (fun _ => rfl) rfl ⟨tld_nil E, h⟩ ?_
  rintro next told W2 hnext ⟨ht, h⟩
  refine app1 ?_
  have hml : ∀ {W' : World} {L : List As}, St W G0 L W' → W'.heap[nb]? = some (mO E c) := fun h => (h.low.block nb (Array.getElem?_eq_some_iff.1 hm).1).trans hm
  refine St.nextM hg ht h (hml h) (fun hp => ?_) fun e W3 he ht2 h => ?_
  · refine a_ext0 (iff' ?_)
    rw [hg.sum hp]
    exact k W2 h.low
  · refine a_ext0 (ift ?_)
    refine St.entryM hg he h (hml h) ?_
    refine a_ext1 ?_
    have hby : By W3 e.2.2.1 e.2.2.2 := (plBy hz (hg.kept e he)).below h.low
    refine x_lenS hby ?_
    have h1 := ht2.sum
    rw [sumG_snoc] at h1
    refine a_add64 (by omega) (by omega) ?_
    rw [show ((sumG told : Nat) : Int) + ((e.2.2.2.length : Nat) : Int) = ((sumG (told ++ [e]) : Nat) : Int) by rw [sumG_snoc]; push_cast; rfl]
    have h2 := ht2.len
    rw [List.length_append] at h2
    simp only [List.length_singleton] at h2
    exact ⟨rfl, hnext (told ++ [e]) W3 (by rw [List.length_append]; simp only [List.length_singleton]; omega) ⟨ht2, h⟩⟩
/-- Peek -/
theorem peek_spec {s : Txt} (hz : DkZ d W v) (k : ∀ v' W', Cel1 v' → St W G0 [Ky v' (BO (gt s d.now))] W' → RR (.tuple #[v', .bool (getK s d.now).isSome]) W') : CallF Try.prog 13 #[v, strV s] W RR := by
  refine sh13_calls ?_
  unfold sh13
  obtain ⟨b, nb, db, pv, ev, E, c, zs, rfl, hV, hr, hm, hg, hz⟩ := hz
  have hle := gt_le (k := s) hV.now.srt
  have htot := hV.now.tot
  refine a_nil (a_fld0 (w_ldR hr rfl ?_))
  obtain ⟨x, hx, h2⟩ := run_look (P := Try.prog) (t := 66) (kt := 9) (et := 29) (k := s) (ok := true) hg hm
  refine .of h2 ?_
  refine a_ext0 (a_ext1 ?_)
  refine bclone_spec (plBy hz hx) (by omega) fun v1 W1 g1 g2 => ?_
  exact k v1 W1 (.of_own g1) ((St.start W).take g2 g1)

/-! ### the names -/
def ItM (b nb : Nat) (_ : Value) : As := Ky b (Ob (.cells [.map (some nb)].toArray 66 (0, 0)))
def QK (E : List Ge) (xs : List (List Value)) : Prop := ∃ L : List Ge, L.Perm E ∧ xs = L.map fun e => [strV e.2.1]
theorem keys_itr {b nb : Nat} {E : List Ge} {c : Nat} {zs : Zs} {m : Fm} (hm : w0.heap[nb]? = some (mO E c)) (hg : GmOk zs m E c) : ItrQ Try.prog w0 G0 (.func (.func 73) #[] #[.pointer (some ⟨b, 0, none⟩)]) (QK E) (ItM b nb) := by
  refine ⟨73, _, rfl, hent _ (by kernel_rfl), fun yv C D I W RR oy hY h hd hs => ?_⟩
  show CallF Try.prog 73 #[yv, .pointer (some ⟨b, 0, none⟩)] W RR
  refine sh73_calls ?_
  unfold sh73
  replace h : St w0 G0 (Ky b (Ob (.cells [.map (some nb)].toArray 66 (0, 0))) :: Ky ([] : List (List Value)) C :: I) W := h.swap
  have hml : ∀ {W' : World} {L : List As}, St w0 G0 L W' → W'.heap[nb]? = some (mO E c) := fun h => (h.low.block nb (Array.getElem?_eq_some_iff.1 hm).1).trans hm
  refine h.load ?_
  refine h.rangeM (hml h) fun r W h => ?_
  refine lpx (α := List Ge) (fun _ => []) (fun told W' => Tld E told ∧ St w0 G0 (Ky r (Ob (itO nb c told c)) :: Ky b (Ob (.cells [.map (some nb)].toArray 66 (0, 0))) :: Ky (told.map fun e => [strV e.2.1]) C :: I) W') (fun told => E.length - told.length) [] (fun _ => rfl) rfl ⟨tld_nil E, h⟩ ?_
  rintro next told W2 hnext ⟨ht, h⟩
  refine app0 ?_
  refine St.nextM hg ht h (hml h) (fun hp => ?_) fun e W3 he ht2 h => ?_
  · refine a_ext0 (iff' ?_)
    refine hd _ W2 ⟨told, hp, rfl⟩ ?_
    exact h.tail.swap
  · refine a_ext0 (ift ?_)
    refine St.entryM hg he h (hml h) ?_
    refine a_ext0 ?_
    have h2 := ht2.len
    rw [List.length_append] at h2
    simp only [List.length_singleton] at h2
    have hmap : (told ++ [e]).map (fun e : Ge => ([strV e.2.1] : List Value)) = told.map (fun e : Ge => ([strV e.2.1] : List Value)) ++ [[strV e.2.1]] := by simp
    refine hY (told.map fun e => [strV e.2.1]) [strV e.2.1] ?_ (Ky r (Ob (itO nb c (told ++ [e]) c)) :: Ky b (Ob (.cells [.map (some nb)].toArray 66 (0, 0))) :: I) W3 _ h.to (fun W h => ?_) fun W h => ?_
    · obtain ⟨rest, hp⟩ := ht2
      refine ⟨rest.map fun e => [strV e.2.1], (told ++ [e]) ++ rest, hp, ?_⟩
      simp
    · (repeat (first | (with_reducible refine ift ?_) | (with_reducible refine iff' ?_) | (with_reducible refine a_lss ?_) | (with_reducible refine a_leq ?_) | (with_reducible refine a_gtr ?_) | (with_reducible refine a_geq ?_) | (with_reducible refine w_eql ?_) | (with_reducible refine w_neq ?_) | (with_reducible refine s_eql ?_) | (with_reducible refine s_neq ?_) | ((with_reducible refine a_add64 ?h0 ?h1 ?_); (case h0 => omega); (case h1 => omega);  skip) | ((with_reducible refine a_sub64 ?h0 ?h1 ?_); (case h0 => omega); (case h1 => omega);  skip) | ((with_reducible refine a_mul64 ?h0 ?h1 ?_); (case h0 => omega); (case h1 => omega);  skip) | (with_reducible refine a_notd ?_) | (with_reducible refine a_not ?_) | (with_reducible refine a_ext0 ?_) | (with_reducible refine a_ext1 ?_) | (with_reducible refine a_ext2 ?_) | (with_reducible refine x_len ?_) | (with_reducible refine x_lens ?_) | (with_reducible refine x_eqb ?_) | (with_reducible refine x_neb ?_) | (with_reducible refine x_nilP ?_) | (with_reducible refine x_nilPn ?_) | (with_reducible refine x_nilF ?_) | (with_reducible refine x_nilFF ?_) | (with_reducible refine w_eqlL ?_) | (with_reducible refine w_neqL ?_) | (with_reducible refine s_eqlL ?_) | (with_reducible refine ifnt ?_) | (with_reducible refine ifnf ?_) | (with_reducible refine x_eqB ?_) | (with_reducible refine x_neB ?_) | (with_reducible refine x_lssL ?_) | (with_reducible refine x_gtrL ?_) | (with_reducible refine x_geqL ?_) | (with_reducible refine s_neqL ?_) | (with_reducible refine St.load h ?_) | (with_reducible refine St.loadS h ?_) | (with_reducible refine a_fld0 ?_) | (with_reducible refine St.store h fun W h => ?_) | (with_reducible refine St.storeS h fun W h => ?_) | (with_reducible refine St.alloc h fun b W h => ?_) | (with_reducible refine St.allocS h fun b W h => ?_) | (with_reducible refine a_nil ?_) | (with_reducible refine ss_load ?_) | (with_reducible refine ss_loadS ?_) | (with_reducible refine ss_eqb ?_)))
      rw [← hmap] at h
      exact ⟨rfl, rfl, hnext (told ++ [e]) W (by rw [List.length_append]; simp only [List.length_singleton]; omega) ⟨ht2, h.to⟩⟩
    · (repeat (first | (with_reducible refine ift ?_) | (with_reducible refine iff' ?_) | (with_reducible refine a_lss ?_) | (with_reducible refine a_leq ?_) | (with_reducible refine a_gtr ?_) | (with_reducible refine a_geq ?_) | (with_reducible refine w_eql ?_) | (with_reducible refine w_neq ?_) | (with_reducible refine s_eql ?_) | (with_reducible refine s_neq ?_) | ((with_reducible refine a_add64 ?h0 ?h1 ?_); (case h0 => omega); (case h1 => omega);  skip) | ((with_reducible refine a_sub64 ?h0 ?h1 ?_); (case h0 => omega); (case h1 => omega);  skip) | ((with_reducible refine a_mul64 ?h0 ?h1 ?_); (case h0 => omega); (case h1 => omega);  skip) | (with_reducible refine a_notd ?_) | (with_reducible refine a_not ?_) | (with_reducible refine a_ext0 ?_) | (with_reducible refine a_ext1 ?_) | (with_reducible refine a_ext2 ?_) | (with_reducible refine x_len ?_) | (with_reducible refine x_lens ?_) | (with_reducible refine x_eqb ?_) | (with_reducible refine x_neb ?_) | (with_reducible refine x_nilP ?_) | (with_reducible refine x_nilPn ?_) | (with_reducible refine x_nilF ?_) | (with_reducible refine x_nilFF ?_) | (with_reducible refine w_eqlL ?_) | (with_reducible refine w_neqL ?_) | (with_reducible refine s_eqlL ?_) | (with_reducible refine ifnt ?_) | (with_reducible refine ifnf ?_) | (with_reducible refine x_eqB ?_) | (with_reducible refine x_neB ?_) | (with_reducible refine x_lssL ?_) | (with_reducible refine x_gtrL ?_) | (with_reducible refine x_geqL ?_) | (with_reducible refine s_neqL ?_) | (with_reducible refine St.load h ?_) | (with_reducible refine St.loadS h ?_) | (with_reducible refine a_fld0 ?_) | (with_reducible refine St.store h fun W h => ?_) | (with_reducible refine St.storeS h fun W h => ?_) | (with_reducible refine St.alloc h fun b W h => ?_) | (with_reducible refine St.allocS h fun b W h => ?_) | (with_reducible refine a_nil ?_) | (with_reducible refine ss_load ?_) | (with_reducible refine ss_loadS ?_) | (with_reducible refine ss_eqb ?_)))
      exact hs (told.map (fun e => [strV e.2.1]) ++ [[strV e.2.1]]) W (show St w0 G0 (Ky (told.map (fun e : Ge => ([strV e.2.1] : List Value)) ++ [[strV e.2.1]]) D :: Ky b (Ob (.cells [.map (some nb)].toArray 66 (0, 0))) :: I) W from h.to)
theorem flat1 {α : Type} (f : α → Value) : ∀ L : List α, (L.map fun e => ([f e] : List Value)).flatten = L.map f
  | [] => rfl
  | a :: L => by rw [List.map_cons, List.flatten_cons, flat1 f L, List.map_cons]; rfl
def CoC (b : Nat) (told : List (List Value)) : As := As.ex fun v : Value => As.all True [Ky b (Ob (.cells [v].toArray 42 (0, 0))), Ky v (Ow 9 1 told.length told.flatten)]
/-- slices.Collect of a map's keys -/
theorem collect_spec {f : Value} {A : Value → As} {E : List Ge} (hI : ItrQ Try.prog w0 G0 f (QK E) A) (hE : E.length ≤ 1000000000) (h : St w0 G0 (Ky f A :: l) W) (k : ∀ (v : Value) (L : List Ge) W', L.Perm E → St w0 G0 (Ky v (Ow 9 1 L.length (L.map fun e => strV e.2.1)) :: Ky f A :: l) W' → RR v W') : CallF Try.prog 71 #[f] W RR := by
  refine sh71_calls ?_
  unfold sh71
  refine sh81_calls ?_
  unfold sh81
  refine h.boxV fun b W h => ?_
  have hnil : St w0 G0 (Ky (.slice none 0 0 : Value) (Ow 9 1 0 []) :: _) W := h.nilOw
  have hx1 : ∀ told x rest, QK E (told ++ x :: rest) → (∃ t, x = [strV t]) ∧ told.length < E.length := by
    rintro told x rest ⟨L, hp, he⟩
    have hm : x ∈ L.map fun e => ([strV e.2.1] : List Value) := by rw [← he]; simp
    obtain ⟨e, _, rfl⟩ := List.mem_map.1 hm
    refine ⟨⟨_, rfl⟩, ?_⟩
    have := congrArg List.length he
    rw [List.length_append, List.length_map, hp.length_eq] at this
    simp at this; omega
  refine rngQ (C := CoC b) hI (fun told x rest hq => by obtain ⟨⟨t, rfl⟩, _⟩ := hx1 told x rest hq; rfl) (l := l) ?_ ?_ ?_
  · exact St.shutE (.slice none 0 0) (St.shut2 trivial (show St w0 G0 (Ky b (Ob (.cells [(.slice none 0 0 : Value)].toArray 42 (0, 0))) :: Ky (.slice none 0 0 : Value) (Ow 9 1 0 []) :: Ky f A :: l) W from hnil.to))
  · rintro told x ⟨rest, hq⟩ ll rec I W kn ks h hn
    obtain ⟨⟨t, rfl⟩, hlt⟩ := hx1 told x rest hq
    refine app1 ?_
    refine ⟨h.ob (b := ll), ?_⟩
    replace h := h.putO (b := ll) (o := .loop (rec .ready none)) (.loop (rec .busy none))
    obtain ⟨v, h⟩ := St.openE h.swap
    replace h := (St.open2 h).2
    have ov : Cel1 v := .of_own (h.ow (v := v))
    refine app2 ?_
    refine h.load ?_
    refine h.push (v := v) (t := 42) (by unfold maxLen; omega) (by omega) fun v' W o' h _ => ?_
    (repeat (first | (with_reducible refine ift ?_) | (with_reducible refine iff' ?_) | (with_reducible refine a_lss ?_) | (with_reducible refine a_leq ?_) | (with_reducible refine a_gtr ?_) | (with_reducible refine a_geq ?_) | (with_reducible refine w_eql ?_) | (with_reducible refine w_neq ?_) | (with_reducible refine s_eql ?_) | (with_reducible refine s_neq ?_) | ((with_reducible refine a_add64 ?h0 ?h1 ?_); (case h0 => omega); (case h1 => omega);  skip) | ((with_reducible refine a_sub64 ?h0 ?h1 ?_); (case h0 => omega); (case h1 => omega);  skip) | ((with_reducible refine a_mul64 ?h0 ?h1 ?_); (case h0 => omega); (case h1 => omega);  skip) | (with_reducible refine a_notd ?_) | (with_reducible refine a_not ?_) | (with_reducible refine a_ext0 ?_) | (with_reducible refine a_ext1 ?_) | (with_reducible refine a_ext2 ?_) | (with_reducible refine x_len ?_) | (with_reducible refine x_lens ?_) | (with_reducible refine x_eqb ?_) | (with_reducible refine x_neb ?_) | (with_reducible refine x_nilP ?_) | (with_reducible refine x_nilPn ?_) | (with_reducible refine x_nilF ?_) | (with_reducible refine x_nilFF ?_) | (with_reducible refine w_eqlL ?_) | (with_reducible refine w_neqL ?_) | (with_reducible refine s_eqlL ?_) | (with_reducible refine ifnt ?_) | (with_reducible refine ifnf ?_) | (with_reducible refine x_eqB ?_) | (with_reducible refine x_neB ?_) | (with_reducible refine x_lssL ?_) | (with_reducible refine x_gtrL ?_) | (with_reducible refine x_geqL ?_) | (with_reducible refine s_neqL ?_) | (with_reducible refine St.load h ?_) | (with_reducible refine St.loadS h ?_) | (with_reducible refine a_fld0 ?_) | (with_reducible refine St.store h fun W h => ?_) | (with_reducible refine St.storeS h fun W h => ?_) | (with_reducible refine St.alloc h fun b W h => ?_) | (with_reducible refine St.allocS h fun b W h => ?_) | (with_reducible refine a_nil ?_) | (with_reducible refine ss_load ?_) | (with_reducible refine ss_loadS ?_) | (with_reducible refine ss_eqb ?_)))
    refine hn W (St.swap (St.shutE v' (St.shut2 trivial ?_)))
    have e : told.flatten ++ [strV t] = (told ++ [[strV t]]).flatten := by simp
    have e2 : told.length + 1 = (told ++ [[strV t]]).length := by simp
    rw [e, e2] at h
    exact h.to
  · rintro D xs W ⟨L, hp, rfl⟩ h
    obtain ⟨v, h⟩ := St.openE h.swap
    replace h := (St.open2 h).2
    have ov : Cel1 v := .of_own (h.ow (v := v))
    refine h.load ?_
    refine ⟨h.ob (b := D), ?_⟩
    replace h := h.putO (b := D) (o := .deferred (some [])) (.deferred none)
    refine k v L _ hp ?_
    have e : (L.map fun e => ([strV e.2.1] : List Value)).flatten = L.map fun e => strV e.2.1 := by
      exact flat1 _ L
    rw [e, List.length_map] at h
    exact h.to
/-- slices.Sort -/
theorem sort_spec {ss : List Txt} {v : Value} {R : List As} [i : Has l v (Ow 9 1 ss.length (ss.map strV)) R] (h : St w0 G0 l W) (hs : ss.length ≤ 1000000000) (k : ∀ W', St w0 G0 (Ky v (Ow 9 1 ss.length ((ss.mergeSort fun x y => decide (x ≤ y)).map strV)) :: R) W' → RR (.tuple #[]) W') :
    CallF Try.prog 72 #[v] W RR := by
  have how := h.ow (v := v)
  have hml : (ss.mergeSort fun x y => decide (x ≤ y)).length = ss.length := List.length_mergeSort ..
  rcases how.2 with ⟨rfl, hn⟩ | ⟨g, cap, cur, rfl, hg, hh, h1, h2, h3, h4⟩
  · have hss : ss = [] := List.eq_nil_of_length_eq_zero hn
    subst hss
    refine Calls.mono (Any.slices_Sort_string_none Try.lays190 none 0 W) ?_
    rintro e w' ⟨rfl, hw⟩
    subst hw
    refine ⟨_, rfl, k _ ?_⟩
    simpa using h.find (k := (.slice none 0 0 : Value)) (X := Ow 9 1 0 [])
  · have hH := Go.holds_of_block (ss := ss) hh (by simpa using h4)
    refine Calls.mono (Any.slices_Sort_string Try.lays190 g 0 cap ss W hH (Array.getElem?_eq_some_iff.1 hh).1 (by omega)) ?_
    rintro e w' ⟨rfl, n, os, rfl⟩
    refine ⟨_, rfl, k _ ?_⟩
    have hown := Go.ownsRow_sorted (base := 0) (n := n) (os := os) (ts := ss.mergeSort fun x y => decide (x ≤ y)) hml (Nat.zero_le _) hh h1 h2 h3
    have hgr := Go.grownBy_sorted (w := W) (g := g) (n := n) (os := os) (ss.mergeSort fun x y => decide (x ≤ y)).toArray
    exact h.setOw (v := .slice (some ⟨g, 0, none⟩) ss.length cap) hgr hown fun k hk => .inl hk
def ItV (b : Nat) (sv : Value) (ks : List Txt) (_ : Value) : As := As.all True [Ky b (Ob (.cells [sv].toArray 42 (0, 0))), Ky sv (Ow 9 1 ks.length (ks.map strV))]
theorem values_itr {b : Nat} {sv : Value} {ks : List Txt} {G : Nat → Prop} : Itr Try.prog w0 G (.func (.func 70) #[] #[.pointer (some ⟨b, 0, none⟩)]) (ks.map fun k => [strV k]) (ItV b sv ks) := by
  refine ⟨70, _, rfl, hent _ (by kernel_rfl), fun yv C D I W RR oy hY h hd hs => ?_⟩
  show CallF Try.prog 70 #[yv, .pointer (some ⟨b, 0, none⟩)] W RR
  refine sh70_calls ?_
  unfold sh70
  have h1 := (St.open2 (show St w0 G (As.all True [Ky b (Ob (.cells [sv].toArray 42 (0, 0))), Ky sv (Ow 9 1 ks.length (ks.map strV))] :: Ky 0 C :: I) W from h.swap)).2
  clear h
  have h := h1
  clear h1
  have back : ∀ (j : Nat) (E : Nat → As) (W : World), St w0 G (Ky b (Ob (.cells [sv].toArray 42 (0, 0))) :: Ky sv (Ow 9 1 ks.length (ks.map strV)) :: Ky j E :: I) W → St w0 G (Ky j E :: Ky (.func (.func 70) #[] #[.pointer (some ⟨b, 0, none⟩)] : Value) (ItV b sv ks) :: I) W := fun j E W h => St.swap (St.shut2 trivial h)
  have osv : Cel1 sv := .of_own (h.ow (v := sv))
  have hnl : ks.length ≤ maxLen := ow_len (h.ow (v := sv))
  unfold maxLen at hnl
  refine h.load ?_
  refine x_lenS (h.osl (v := sv)) ?_
  refine lpx (α := Nat) (fun i => [nV .i64 i]) (fun i W => i ≤ ks.length ∧ St w0 G (Ky b (Ob (.cells [sv].toArray 42 (0, 0))) :: Ky sv (Ow 9 1 ks.length (ks.map strV)) :: Ky i C :: I) W) (fun i => ks.length - i) 0 (fun _ => rfl) rfl ⟨Nat.zero_le _, h⟩ ?_
  rintro next i W hnext ⟨hi, h⟩
  refine app1 ?_
  refine a_lss (ifd (fun hc => ?_) fun hc => ?_)
  · have hil : i < ks.length := by omega
    obtain ⟨p, hp⟩ : ∃ p, ks[i]? = some p := ⟨_, List.getElem?_eq_getElem hil⟩
    refine x_at (h.osl (v := sv)) (u := strV p) (by rw [List.getElem?_map, hp]; rfl) ?_
    refine hY i [strV p] (by rw [List.getElem?_map, hp]; rfl) (Ky b (Ob (.cells [sv].toArray 42 (0, 0))) :: Ky sv (Ow 9 1 ks.length (ks.map strV)) :: I) W _ h.to (fun W h => ?_) fun W h => ?_
    · (repeat (first | (with_reducible refine ift ?_) | (with_reducible refine iff' ?_) | (with_reducible refine a_lss ?_) | (with_reducible refine a_leq ?_) | (with_reducible refine a_gtr ?_) | (with_reducible refine a_geq ?_) | (with_reducible refine w_eql ?_) | (with_reducible refine w_neq ?_) | (with_reducible refine s_eql ?_) | (with_reducible refine s_neq ?_) | ((with_reducible refine a_add64 ?h0 ?h1 ?_); (case h0 => omega); (case h1 => omega);  skip) | ((with_reducible refine a_sub64 ?h0 ?h1 ?_); (case h0 => omega); (case h1 => omega);  skip) | ((with_reducible refine a_mul64 ?h0 ?h1 ?_); (case h0 => omega); (case h1 => omega);  skip) | (with_reducible refine a_notd ?_) | (with_reducible refine a_not ?_) | (with_reducible refine a_ext0 ?_) | (with_reducible refine a_ext1 ?_) | (with_reducible refine a_ext2 ?_) | (with_reducible refine x_len ?_) | (with_reducible refine x_lens ?_) | (with_reducible refine x_eqb ?_) | (with_reducible refine x_neb ?_) | (with_reducible refine x_nilP ?_) | (with_reducible refine x_nilPn ?_) | (with_reducible refine x_nilF ?_) | (with_reducible refine x_nilFF ?_) | (with_reducible refine w_eqlL ?_) | (with_reducible refine w_neqL ?_) | (with_reducible refine s_eqlL ?_) | (with_reducible refine ifnt ?_) | (with_reducible refine ifnf ?_) | (with_reducible refine x_eqB ?_) | (with_reducible refine x_neB ?_) | (with_reducible refine x_lssL ?_) | (with_reducible refine x_gtrL ?_) | (with_reducible refine x_geqL ?_) | (with_reducible refine s_neqL ?_) | (with_reducible refine St.load h ?_) | (with_reducible refine St.loadS h ?_) | (with_reducible refine a_fld0 ?_) | (with_reducible refine St.store h fun W h => ?_) | (with_reducible refine St.storeS h fun W h => ?_) | (with_reducible refine St.alloc h fun b W h => ?_) | (with_reducible refine St.allocS h fun b W h => ?_) | (with_reducible refine a_nil ?_) | (with_reducible refine ss_load ?_) | (with_reducible refine ss_loadS ?_) | (with_reducible refine ss_eqb ?_)))
      rw [show ((i : Int) + 1) = ((i + 1 : Nat) : Int) by push_cast; rfl]
      exact ⟨rfl, rfl, rfl, hnext (i + 1) W (by omega) ⟨by omega, h.to⟩⟩
    · (repeat (first | (with_reducible refine ift ?_) | (with_reducible refine iff' ?_) | (with_reducible refine a_lss ?_) | (with_reducible refine a_leq ?_) | (with_reducible refine a_gtr ?_) | (with_reducible refine a_geq ?_) | (with_reducible refine w_eql ?_) | (with_reducible refine w_neq ?_) | (with_reducible refine s_eql ?_) | (with_reducible refine s_neq ?_) | ((with_reducible refine a_add64 ?h0 ?h1 ?_); (case h0 => omega); (case h1 => omega);  skip) | ((with_reducible refine a_sub64 ?h0 ?h1 ?_); (case h0 => omega); (case h1 => omega);  skip) | ((with_reducible refine a_mul64 ?h0 ?h1 ?_); (case h0 => omega); (case h1 => omega);  skip) | (with_reducible refine a_notd ?_) | (with_reducible refine a_not ?_) | (with_reducible refine a_ext0 ?_) | (with_reducible refine a_ext1 ?_) | (with_reducible refine a_ext2 ?_) | (with_reducible refine x_len ?_) | (with_reducible refine x_lens ?_) | (with_reducible refine x_eqb ?_) | (with_reducible refine x_neb ?_) | (with_reducible refine x_nilP ?_) | (with_reducible refine x_nilPn ?_) | (with_reducible refine x_nilF ?_) | (with_reducible refine x_nilFF ?_) | (with_reducible refine w_eqlL ?_) | (with_reducible refine w_neqL ?_) | (with_reducible refine s_eqlL ?_) | (with_reducible refine ifnt ?_) | (with_reducible refine ifnf ?_) | (with_reducible refine x_eqB ?_) | (with_reducible refine x_neB ?_) | (with_reducible refine x_lssL ?_) | (with_reducible refine x_gtrL ?_) | (with_reducible refine x_geqL ?_) | (with_reducible refine s_neqL ?_) | (with_reducible refine St.load h ?_) | (with_reducible refine St.loadS h ?_) | (with_reducible refine a_fld0 ?_) | (with_reducible refine St.store h fun W h => ?_) | (with_reducible refine St.storeS h fun W h => ?_) | (with_reducible refine St.alloc h fun b W h => ?_) | (with_reducible refine St.allocS h fun b W h => ?_) | (with_reducible refine a_nil ?_) | (with_reducible refine ss_load ?_) | (with_reducible refine ss_loadS ?_) | (with_reducible refine ss_eqb ?_)))
      exact hs (i + 1) W (by rw [List.length_map]; omega) (back _ _ W h.to)
  · have hil : i = ks.length := by omega
    subst hil
    exact hd W (by rw [List.length_map]; exact back _ _ W h)
/-- slices.Sorted of the keys -/
theorem sorted_spec {b nb : Nat} {E : List Ge} {c : Nat} {zs : Zs} {m : Fm} (hm : w0.heap[nb]? = some (mO E c)) (hg : GmOk zs m E c) (hE : m.length ≤ 1000000000) (h : St w0 G0 (Ky (.func (.func 73) #[] #[.pointer (some ⟨b, 0, none⟩)] : Value) (ItM b nb) :: l) W)
    (k : ∀ v W', Cel1 v → St w0 G0 (Ky v (Ow 9 1 (m.map Prod.fst).length ((m.map Prod.fst).map strV)) :: l) W' → RR v W') : CallF Try.prog 44 #[.func (.func 73) #[] #[.pointer (some ⟨b, 0, none⟩)]] W RR := by
  refine sh44_calls ?_
  unfold sh44
  refine collect_spec (keys_itr hm hg) (by rw [hg.len]; exact hE) h fun v L W hp h => ?_
  have e1 : (L.map fun e => strV e.2.1) = (L.map fun e => e.2.1).map strV := by rw [List.map_map]; rfl
  have e2 : L.length = (L.map fun e => e.2.1).length := by simp
  have hll : L.length = m.length := by rw [hp.length_eq, hg.len]
  rw [e1, e2] at h
  refine sort_spec (v := v) h (by rw [← e2, hll]; exact hE) fun W h => ?_
  have hpp : (L.map fun e => e.2.1).Perm (m.map Prod.fst) := by
    have h1 := (hp.map fun e => e.2.1)
    have h2 := hg.perm.map Prod.fst
    rw [List.map_map] at h2
    exact h1.trans h2
  rw [srt_sorted hg.srt hpp] at h
  have e3 : (L.map fun e => e.2.1).length = (m.map Prod.fst).length := hpp.length_eq
  rw [e3] at h
  exact k v W (.of_own (h.ow (v := v))) h.to
/-- Names -/
theorem names_spec (hz : DkZ d W v) (hc : d.calls ≤ 1000000000) (k : ∀ f b sv W', Itr Try.prog W G0 f ((d.now.map Prod.fst).map fun k => [strV k]) (ItV b sv (d.now.map Prod.fst)) → St W G0 [Ky f (ItV b sv (d.now.map Prod.fst))] W' → RR f W') : CallF Try.prog 20 #[v] W RR := by
  refine sh20_calls ?_
  unfold sh20
  obtain ⟨b, nb, db, pv, ev, E, c, zs, rfl, hV, hr, hm, hg, hz⟩ := hz
  have hlen := hV.lenN
  refine a_nil (a_fld0 (w_ldR hr rfl ?_))
  refine sh45_calls ?_
  unfold sh45
  refine (St.start W).boxV fun b1 W1 h => ?_
  refine v_func ?_
  refine sorted_spec (b := b1) (l := []) hm hg (by omega) h fun sv W2 o h => ?_
  refine sh43_calls ?_
  unfold sh43
  refine h.boxV fun b2 W3 h => ?_
  refine v_func ?_
  exact k _ b2 sv W3 values_itr (St.shut2 trivial h)
def NaC (b : Nat) (ks : List Txt) (i : Nat) : As := As.ex fun v : Value => As.all True [Ky b (Ob (.cells [v].toArray 42 (0, 0))), Ky v (Ow 9 1 i ((ks.take i).map strV))]
/-- the law's Names -/
theorem lnames_spec {f : Value} {ks : List Txt} {A : Value → As} (hI : Itr Try.prog w0 G0 f (ks.map fun k => [strV k]) A) (hks : ks.length ≤ 1000000000) (h : St w0 G0 (Ky f A :: l) W) (k : ∀ v W', Cel1 v → St w0 G0 (Ky v (Ow 9 1 ks.length (ks.map strV)) :: l) W' → RR v W') : CallF Try.prog 19 #[f] W RR := by
  refine sh19_calls ?_
  unfold sh19
  obtain ⟨gf, lb, rfl, _⟩ := id hI
  refine h.alloc fun b W h => ?_
  (repeat (first | (with_reducible refine ift ?_) | (with_reducible refine iff' ?_) | (with_reducible refine a_lss ?_) | (with_reducible refine a_leq ?_) | (with_reducible refine a_gtr ?_) | (with_reducible refine a_geq ?_) | (with_reducible refine w_eql ?_) | (with_reducible refine w_neq ?_) | (with_reducible refine s_eql ?_) | (with_reducible refine s_neq ?_) | ((with_reducible refine a_add64 ?h0 ?h1 ?_); (case h0 => omega); (case h1 => omega);  skip) | ((with_reducible refine a_sub64 ?h0 ?h1 ?_); (case h0 => omega); (case h1 => omega);  skip) | ((with_reducible refine a_mul64 ?h0 ?h1 ?_); (case h0 => omega); (case h1 => omega);  skip) | (with_reducible refine a_notd ?_) | (with_reducible refine a_not ?_) | (with_reducible refine a_ext0 ?_) | (with_reducible refine a_ext1 ?_) | (with_reducible refine a_ext2 ?_) | (with_reducible refine x_len ?_) | (with_reducible refine x_lens ?_) | (with_reducible refine x_eqb ?_) | (with_reducible refine x_neb ?_) | (with_reducible refine x_nilP ?_) | (with_reducible refine x_nilPn ?_) | (with_reducible refine x_nilF ?_) | (with_reducible refine x_nilFF ?_) | (with_reducible refine w_eqlL ?_) | (with_reducible refine w_neqL ?_) | (with_reducible refine s_eqlL ?_) | (with_reducible refine ifnt ?_) | (with_reducible refine ifnf ?_) | (with_reducible refine x_eqB ?_) | (with_reducible refine x_neB ?_) | (with_reducible refine x_lssL ?_) | (with_reducible refine x_gtrL ?_) | (with_reducible refine x_geqL ?_) | (with_reducible refine s_neqL ?_) | (with_reducible refine St.load h ?_) | (with_reducible refine St.loadS h ?_) | (with_reducible refine a_fld0 ?_) | (with_reducible refine St.store h fun W h => ?_) | (with_reducible refine St.storeS h fun W h => ?_) | (with_reducible refine St.alloc h fun b W h => ?_) | (with_reducible refine St.allocS h fun b W h => ?_) | (with_reducible refine a_nil ?_) | (with_reducible refine ss_load ?_) | (with_reducible refine ss_loadS ?_) | (with_reducible refine ss_eqb ?_)))
  have hnil : St w0 G0 (Ky (.slice none 0 0 : Value) (Ow 9 1 0 ((ks.take 0).map strV)) :: _) W := h.nilOw
  refine rngI (C := fun i => NaC b ks i) (fun c i => As.all False []) hI (fun x hx => by obtain ⟨k, _, rfl⟩ := List.mem_map.1 hx; rfl) (l := l) ?_ ?_ ?_ ?_
  · exact St.shutE (.slice none 0 0) (St.shut2 trivial hnil.to)
  · intro i x hxi ll rec I' W kn kst h hn hk
    obtain ⟨k0, hk0, rfl⟩ : ∃ k0, ks[i]? = some k0 ∧ x = [strV k0] := by
      rw [List.getElem?_map] at hxi
      cases hk0 : ks[i]? with
      | none => rw [hk0] at hxi; cases hxi
      | some k0 => rw [hk0] at hxi; cases hxi; exact ⟨k0, rfl, rfl⟩
    have hil := (List.getElem?_eq_some_iff.1 hk0).1
    refine app1 ?_
    refine ⟨h.ob (b := ll), ?_⟩
    replace h := h.putO (b := ll) (o := .loop (rec .ready none)) (.loop (rec .busy none))
    obtain ⟨v, h⟩ := St.openE h.swap
    replace h := (St.open2 h).2
    have ov : Cel1 v := .of_own (h.ow (v := v))
    refine app2 ?_
    refine h.load ?_
    refine h.push (v := v) (t := 42) (by unfold maxLen; omega) (by omega) fun v' W o' h _ => ?_
    (repeat (first | (with_reducible refine ift ?_) | (with_reducible refine iff' ?_) | (with_reducible refine a_lss ?_) | (with_reducible refine a_leq ?_) | (with_reducible refine a_gtr ?_) | (with_reducible refine a_geq ?_) | (with_reducible refine w_eql ?_) | (with_reducible refine w_neq ?_) | (with_reducible refine s_eql ?_) | (with_reducible refine s_neq ?_) | ((with_reducible refine a_add64 ?h0 ?h1 ?_); (case h0 => omega); (case h1 => omega);  skip) | ((with_reducible refine a_sub64 ?h0 ?h1 ?_); (case h0 => omega); (case h1 => omega);  skip) | ((with_reducible refine a_mul64 ?h0 ?h1 ?_); (case h0 => omega); (case h1 => omega);  skip) | (with_reducible refine a_notd ?_) | (with_reducible refine a_not ?_) | (with_reducible refine a_ext0 ?_) | (with_reducible refine a_ext1 ?_) | (with_reducible refine a_ext2 ?_) | (with_reducible refine x_len ?_) | (with_reducible refine x_lens ?_) | (with_reducible refine x_eqb ?_) | (with_reducible refine x_neb ?_) | (with_reducible refine x_nilP ?_) | (with_reducible refine x_nilPn ?_) | (with_reducible refine x_nilF ?_) | (with_reducible refine x_nilFF ?_) | (with_reducible refine w_eqlL ?_) | (with_reducible refine w_neqL ?_) | (with_reducible refine s_eqlL ?_) | (with_reducible refine ifnt ?_) | (with_reducible refine ifnf ?_) | (with_reducible refine x_eqB ?_) | (with_reducible refine x_neB ?_) | (with_reducible refine x_lssL ?_) | (with_reducible refine x_gtrL ?_) | (with_reducible refine x_geqL ?_) | (with_reducible refine s_neqL ?_) | (with_reducible refine St.load h ?_) | (with_reducible refine St.loadS h ?_) | (with_reducible refine a_fld0 ?_) | (with_reducible refine St.store h fun W h => ?_) | (with_reducible refine St.storeS h fun W h => ?_) | (with_reducible refine St.alloc h fun b W h => ?_) | (with_reducible refine St.allocS h fun b W h => ?_) | (with_reducible refine a_nil ?_) | (with_reducible refine ss_load ?_) | (with_reducible refine ss_loadS ?_) | (with_reducible refine ss_eqb ?_)))
    have e : (ks.take i).map strV ++ [strV k0] = (ks.take (i + 1)).map strV := by rw [List.take_add_one, hk0, List.map_append]; rfl
    rw [e] at h
    exact hn W (St.swap (St.shutE v' (St.shut2 trivial h.to)))
  · intro DD W h
    obtain ⟨v, h⟩ := St.openE h.swap
    replace h := (St.open2 h).2
    have ov : Cel1 v := .of_own (h.ow (v := v))
    rw [List.length_map, List.take_length] at h
    refine h.load ?_
    refine ⟨h.ob (b := DD), ?_⟩
    replace h := h.putO (b := DD) (o := .deferred (some [])) (.deferred none)
    exact k v _ ov h.to
  · intro DD c i W hi h
    exact (St.openA (show St w0 G0 (As.all False [] :: _) W from h.swap)).1.elim
/-- both: the names of a disk -/
theorem dnames_spec (hz : DkZ d W v) (hc : d.calls ≤ 1000000000) (k : ∀ sv W', Cel1 sv → St W G0 [Ky sv (Ow 9 1 (d.now.map Prod.fst).length ((d.now.map Prod.fst).map strV))] W' → RR sv W') :
    CallF Try.prog 20 #[v] W fun f W1 => CallF Try.prog 19 #[f] W1 RR := by
  have hV : d.V := by obtain ⟨b, nb, db, pv, ev, E, c, zs, rfl, hV, _⟩ := hz; exact hV
  have hlen := hV.lenN
  refine names_spec hz hc fun f b sv W1 hI h => ?_
  exact lnames_spec hI (by rw [List.length_map]; omega) h k
/-- hblref.Texts -/
theorem texts_spec {a b : List Txt} {u v : Value} (hu : Sl W 1 u a.length (a.map strV)) (hv : Sl W 1 v b.length (b.map strV)) (ha : a.length ≤ 1000000000)
    (kd : ∀ W', Below W.heap.size W W' → RR (.bool (decide (a = b))) W') : CallF Try.prog 23 #[u, v] W RR := by
  refine sh23_calls ?_
  unfold sh23
  refine x_lenS hu (x_lenS hv ?_)
  refine w_neq (ifd (fun hne => ?_) fun hne => ?_)
  · have := kd W (Below.refl _ _)
    rw [decide_eq_false (fun h => hne (by rw [h]))] at this
    exact this
  have hl : a.length = b.length := by omega
  refine lpx (α := Nat) (fun i => [nV .i64 i]) (fun i W' => Below W.heap.size W W' ∧ i ≤ a.length ∧ a.take i = b.take i) (fun i => a.length - i) 0 (fun _ => rfl) rfl ⟨Below.refl _ _, Nat.zero_le _, rfl⟩ ?_
  rintro next i W' hnext ⟨hb, hi, he⟩
  refine app1 ?_
  refine x_lenS hu ?_
  refine a_lss (ifd (fun hc => ?_) fun hc => ?_)
  · have hil : i < a.length := by omega
    obtain ⟨p, hp⟩ : ∃ p, a[i]? = some p := ⟨_, List.getElem?_eq_getElem hil⟩
    obtain ⟨q, hq⟩ : ∃ q, b[i]? = some q := ⟨_, List.getElem?_eq_getElem (by omega)⟩
    refine ⟨fun w => Below W.heap.size W w, hb.drew, ?_⟩
    refine x_sat hu (fun w hw => hu.below hw) (u := strV p) (by rw [List.getElem?_map, hp]; rfl) ?_
    refine x_sat hv (fun w hw => hv.below hw) (u := strV q) (by rw [List.getElem?_map, hq]; rfl) ?_
    refine s_neqL (ifd (fun hpq => ?_) fun hpq => ?_)
    · have := kd W'.drew hb.drew
      rw [decide_eq_false (fun h => hpq (by rw [h, hq] at hp; cases hp; rfl))] at this
      exact this
    · refine a_add64 (by omega) (by omega) ?_
      rw [show ((i : Int) + 1) = ((i + 1 : Nat) : Int) by push_cast; rfl]
      have hpq' : p = q := by simpa using hpq
      refine ⟨rfl, rfl, hnext (i + 1) W'.drew (by omega) ⟨hb.drew, by omega, ?_⟩⟩
      rw [List.take_add_one, List.take_add_one, he, hp, hq, hpq']
  · have hil : i = a.length := by omega
    subst hil
    have heq : a = b := by
      rw [List.take_length, hl, List.take_length] at he
      exact he
    have := kd W' hb
    rw [decide_eq_true heq] at this
    exact this
/-- alike -/
theorem alike_spec (hz : DkZ d W v) (hz' : DkZ d' W v') (hc : d.calls ≤ 1000000000) (hc' : d'.calls ≤ 1000000000) (k : ∀ W', Below W.heap.size W W' → RR (.bool (decide (d.now = d'.now))) W') : CallF Try.prog 17 #[v, v'] W RR := by
  refine sh17_calls ?_
  unfold sh17
  have hV : d.V := by obtain ⟨b, nb, db, pv, ev, E, c, zs, rfl, hV, _⟩ := hz; exact hV
  have hV' : d'.V := by obtain ⟨b, nb, db, pv, ev, E, c, zs, rfl, hV, _⟩ := hz'; exact hV
  have hlen := hV.lenN
  refine dnames_spec hz hc fun s1 W1 o1 h => ?_
  refine dnames_spec (hz'.below h.low) hc' fun s2 W2 o2 h2 => ?_
  replace h := h.frame1 h2
  have hs1 : Sl W2 1 s1 (d.now.map Prod.fst).length ((d.now.map Prod.fst).map strV) := h.osl (v := s1)
  have hlow := h.low
  refine texts_spec (a := d.now.map Prod.fst) (b := d'.now.map Prod.fst) hs1 (h.osl (v := s2)) (by rw [List.length_map]; omega) fun W3 hb3 => ?_
  refine a_notd (ifd (fun hne => ?_) fun hne => ?_)
  · have := k W3 (Below.next hlow hb3)
    rw [decide_eq_false (fun he => hne (by rw [he]))] at this
    exact this
  have heq : d.now.map Prod.fst = d'.now.map Prod.fst := by simpa using hne
  have hlow3 := Below.next hlow hb3
  replace hs1 := hs1.below hb3
  replace hz := hz.below hlow3
  replace hz' := hz'.below hlow3
  generalize hks : d.now.map Prod.fst = ks at *
  have hkl : ks.length ≤ 1000000000 := by rw [← hks, List.length_map]; omega
  refine lpx (α := Nat) (fun i => [nV .i64 i]) (fun i W' => Below W3.heap.size W3 W' ∧ i ≤ ks.length ∧ ∀ s ∈ ks.take i, gt s d.now = gt s d'.now) (fun i => ks.length - i) 0 (fun _ => rfl) rfl ⟨Below.refl _ _, Nat.zero_le _, by simp⟩ ?_
  rintro next i W' hnext ⟨hb, hi, he⟩
  refine app1 ?_
  refine x_lenS hs1 ?_
  refine a_lss (ifd (fun hc => ?_) fun hc => ?_)
  · have hil : i < ks.length := by omega
    obtain ⟨p, hp⟩ : ∃ p, ks[i]? = some p := ⟨_, List.getElem?_eq_getElem hil⟩
    have hpm : (ks.map strV)[i]? = some (strV p) := by rw [List.getElem?_map, hp]; rfl
    refine x_at (hs1.below hb) (u := strV p) hpm ?_
    refine peek_spec (s := p) (hz.below hb) fun x W4 ox h4 => ?_
    refine a_ext0 (a_ext1 ?_)
    have hb4 := Below.next hb h4.low
    refine x_at (hs1.below hb4) (u := strV p) hpm ?_
    refine peek_spec (s := p) (hz'.below hb4) fun y W5 oy h5 => ?_
    refine a_ext0 (a_ext1 ?_)
    have hx : By W5 x (gt p d.now) := (h4.osl (v := x)).below h5.low
    refine bytes_spec hx (h5.osl (v := y)) ?_
    have hb5 := Below.next hb4 h5.low
    refine a_notd (ifd (fun hd => ?_) fun hd => ?_)
    · have := k W5 (Below.next hlow3 hb5)
      rw [decide_eq_false (fun he => hd (by rw [he]))] at this
      exact this
    · refine a_add64 (by omega) (by omega) ?_
      rw [show ((i : Int) + 1) = ((i + 1 : Nat) : Int) by push_cast; rfl]
      refine ⟨rfl, rfl, rfl, hnext (i + 1) W5 (by omega) ⟨hb5, by omega, ?_⟩⟩
      intro s hs
      rw [List.take_add_one, hp] at hs
      rcases List.mem_append.1 hs with hs | hs
      · exact he s hs
      · simp only [Option.toList_some, List.mem_singleton] at hs
        subst hs
        simpa using hd
  · have hil : i = ks.length := by omega
    subst hil
    rw [List.take_length] at he
    have := k W' (Below.next hlow3 hb)
    rw [decide_eq_true (fm_ext hV.now.srt hV'.now.srt (by rw [hks, heq]) (by rw [hks]; exact he))] at this
    exact this
end
end Go.Proofs.Ytdoopdbfajgnjaa
