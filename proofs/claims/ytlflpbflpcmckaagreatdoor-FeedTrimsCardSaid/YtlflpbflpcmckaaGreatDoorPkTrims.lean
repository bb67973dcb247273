/-
  FeedTrims: the statement, proved for every argument: it returns true, and the arguments read as they did.
-/
import Derived.Test.YtlflpbflpcmckaaGreatDoorPkTrimsD
import Derived.Laws.Cover1
import Derived.Test.YtlflpbflpcmckaaGreatDoorCards
import Derived.Test.YtlflpbflpcmckaaGreatDoorTie
import Derived.Lay
import Derived.LaidMore
import Derived.LaidOnce
import Derived.SevenTiedAt
import Derived.PinnedBridge
import Derived.Stop.Joined
namespace Go.Ez
open Go Go.Proofs
theorem attrX_cons {nm : Txt} {a : XAt} {l : List XAt} : attrX nm (a :: l) = if a.space = [] ∧ a.name = nm then some a.value else attrX nm l := rfl
theorem inGo_tx {M : Nat} : ∀ {l : List XTk} {d : Int} {b : Txt}, (∀ t ∈ l, t.text.length ≤ M) → (inGo l d b).1.length ≤ b.length + l.length * M
  | [], _, _, _ => by simp [inGo]
  | t :: l, d, b, h => by
    have h1 : (b ++ txOf t).length ≤ b.length + M := by
      rw [List.length_append]
      have : (txOf t).length ≤ M := by
        unfold txOf
        split
        · exact h t (List.mem_cons_self ..)
        · exact Nat.zero_le _
      omega
    unfold inGo
    rw [List.length_cons, Nat.succ_mul]
    split
    · simp only; omega
    · have := inGo_tx (l := l) (d := d + kd t.kind) (b := b ++ txOf t) fun u hu => h u (List.mem_cons_of_mem _ hu)
      simp only; omega
theorem innerX_tx {M : Nat} {ts : List XTk} {i : Int} (h : ∀ t ∈ ts, t.text.length ≤ M) : (innerX ts i).1.length ≤ ts.length * M := by
  unfold innerX
  split
  · exact Nat.zero_le _
  · cases ts[i.toNat]? with
    | none => exact Nat.zero_le _
    | some t =>
      simp only
      split
      · exact Nat.zero_le _
      · refine Nat.le_trans (inGo_tx (M := M) fun t ht => h t (List.mem_of_mem_drop ht)) ?_
        rw [List.length_nil, Nat.zero_add, List.length_drop]
        exact Nat.mul_le_mul_right _ (by omega)
end Go.Ez
namespace Go.Proofs.YtlflpbflpcmckaaGreatDoor
open Go Go.Ez Go.RowKit Go.Lib
set_option linter.unusedSimpArgs false
set_option linter.unusedVariables false
section
variable {w0 W W' : World} {G : Nat → Prop} {l R R1 R2 : List As} {RR : Value → World → Prop} {s sp nm : Txt} {v : Value} {ts : List XTk} {t : XTk} {i n b : Nat} {K : Value → Prop} {k0 : IntKind}
theorem Few.child (h : Few ts) : Few ((childX sp nm ts).getD []) := by
  unfold childX subs
  cases kids sp nm ts with
  | nil => exact .nil
  | cons p ps => exact h.sub
theorem Few.tx (h : Few ts) {i : Int} : (innerX ts i).1.length ≤ 90000000000 := Nat.le_trans (innerX_tx h.x) (by have := h.n; omega)
theorem text_spec (ht : Toks w0 v ts) (hf : Few ts) (h : St w0 G0 l W) (k : ∀ W', St w0 G0 l W' → RR (strV (textX ts)) W') : CallF Tryz.prog 84 #[v] W RR := by
  refine sh84_calls ?_
  unfold sh84
  refine inner_spec (at_ := 0) ht hf.n hf.a hf.x h fun W h => a_ext0 (a_ext1 ?_)
  refine ftrim_spec h (by have := hf.tx (i := 0); omega) k
abbrev CdC (t6 t7 : Nat) (i : Nat) : As := As.all (i = 0) [Ky t6 (Ob (.cells [(.slice none 0 0 : Value)].toArray 58 (0, 0))), Ky t7 (Ob (.cells [(.bool false : Value)].toArray 4 (0, 0)))]
abbrev CdD (t6 t7 : Nat) (xs : List (List Value)) (c : Code) (_ : Nat) : As := As.ex fun v' : Value => As.all (c = .ret ∧ xs[0]? = some [v']) [Ky t6 (Ob (.cells [v'].toArray 58 (0, 0))), Ky t7 (Ob (.cells [(.bool true : Value)].toArray 4 (0, 0)))]
theorem kidsV_get {i : Nat} {x : List Value} (h : (kidsV v sp nm ts)[i]? = some x) : ∃ p, (kids sp nm ts)[i]? = some p ∧ x = [subV v p] := by
  unfold kidsV at h
  rw [List.getElem?_map] at h
  cases hk : (kids sp nm ts)[i]? with
  | none => rw [hk] at h; cases h
  | some p => rw [hk] at h; exact ⟨p, rfl, (Option.some.inj h).symm⟩
theorem kidsV_one : ∀ x ∈ kidsV v sp nm ts, x.length = 1 := fun x hx => by
  obtain ⟨i, hi⟩ := List.getElem?_of_mem hx
  obtain ⟨p, _, rfl⟩ := kidsV_get hi
  rfl
theorem kids_ok {i : Nat} {p : Nat × Nat} (h : (kids sp nm ts)[i]? = some p) : p.1 < p.2 ∧ p.2 ≤ ts.length := (kidsGo_ok (List.mem_of_getElem? h)).2
theorem child_spec (ht : Toks w0 v ts) (hf : Few ts) (h : St w0 G0 l W) (k : ∀ v' W', St w0 G0 l W' → Toks w0 v' ((childX sp nm ts).getD []) → RR (.tuple #[v', .bool (childX sp nm ts).isSome]) W') : CallF Tryz.prog 46 #[v, strV sp, strV nm] W RR := by
  refine sh46_calls ?_
  unfold sh46
  refine h.alloc fun t6 W h => h.alloc fun t7 W h => ?_
  refine children_spec ht h fun t3 t4 t5 W h => ?_
  have hI := children_itr (t3 := t3) (t4 := t4) (t5 := t5) (sp := sp) (nm := nm) ht hf
  refine rngI (C := CdC t6 t7) (Dd := CdD t6 t7 (kidsV v sp nm ts)) hI kidsV_one (l := l) ?_ ?_ ?_ ?_
  · exact St.shut2 rfl h.to
  · intro i x hxi ll rec I W kn ks h hkn hks
    obtain ⟨p, hp, rfl⟩ := kidsV_get hxi
    refine app1 ?_
    refine ⟨h.ob (b := ll), ?_⟩
    replace h := h.putO (b := ll) (o := .loop (rec .ready none)) (.loop (rec .busy none))
    replace h : St w0 G0 (Ky i (CdC t6 t7) :: Ky ll (Ob (.loop (rec .busy none))) :: I) _ := h.to
    obtain ⟨hi0, h2⟩ := St.open2 h
    clear h
    subst hi0
    have h := h2
    clear h2
    refine app3 ?_
    have oc : Cel1 (subV v p) := by
      have := kids_ok hp
      obtain ⟨cs, hcs⟩ := tk_len (ht.sub (p := p) (by omega) this.2)
      exact Cel1.of_sl hcs
    refine h.store fun W h => h.store fun W h => ?_
    exact hks .ret W (St.swap (St.shutE (subV v p) (St.shut2 ⟨rfl, hxi⟩ h.to)))
  · intro D W h
    replace h : St w0 G0 (Ky (kidsV v sp nm ts).length (CdC t6 t7) :: Ky D (Ob (.deferred (some []))) :: Ky (chFn t3 t4 t5) (ChA t3 t4 t5 v sp nm) :: l) W := h.swap
    obtain ⟨h0, h⟩ := St.open2 h
    have e : childX sp nm ts = none := by
      unfold kidsV at h0
      rw [List.length_map] at h0
      unfold childX subs
      rw [List.eq_nil_of_length_eq_zero h0]; rfl
    rw [e] at k
    refine h.store fun W h => h.store fun W h => ?_
    refine ⟨h.ob (b := D), ?_⟩
    replace h := h.putO (b := D) (o := .deferred (some [])) (.deferred none)
    refine h.load (h.load ?_)
    exact k _ _ h.to (.nil w0)
  · intro D c i W hi h
    replace h : St w0 G0 (Ky i (CdD t6 t7 (kidsV v sp nm ts) c) :: Ky D (Ob (.deferred (some []))) :: Ky (chFn t3 t4 t5) (ChA t3 t4 t5 v sp nm) :: l) W := h.swap
    obtain ⟨v', h⟩ := St.openE h
    obtain ⟨⟨hcc, hx⟩, h2⟩ := St.open2 h
    clear h
    subst hcc
    have h := h2
    clear h2
    obtain ⟨p, hp, hv'⟩ := kidsV_get hx
    obtain rfl : v' = subV v p := by simpa using hv'
    have hpk := kids_ok hp
    have e : childX sp nm ts = some (subN ts p) := by
      unfold childX subs
      rw [List.head?_map, List.head?_eq_getElem?, hp]; rfl
    rw [e] at k
    refine ⟨h.ob (b := D), ?_⟩
    replace h := h.putO (b := D) (o := .deferred (some [])) (.deferred none)
    refine h.load (h.load ?_)
    exact k _ _ h.to (ht.sub (by omega) hpk.2)
theorem inT_spec (ht : Toks w0 v ts) (hf : Few ts) (h : St w0 G0 l W) (k : ∀ W', St w0 G0 l W' → RR (strV (inT sp nm ts)) W') : CallF Tryz.prog 47 #[v, strV sp, strV nm] W RR := by
  refine sh47_calls ?_
  unfold sh47
  refine child_spec ht hf h fun v' W h t' => a_ext0 (a_ext1 ?_)
  exact text_spec t' hf.child h k
theorem fwhen_spec (h : St w0 G l W) (hs : s.length ≤ 9223372036854775807) (k : ∀ W', St w0 G l W' → RR (.int .i64 (whenX s)) W') : CallF Tryz.prog 88 #[strV s] W RR := by
  refine sh88_calls ?_
  unfold sh88
  refine any_spec h hs fun W h => a_ext0 (a_ext1 ?_)
  unfold whenX at k
  refine w_neq (ifd (fun hc => ?_) fun hc => ?_)
  · rw [if_pos hc] at k; exact k W h
  · rw [if_neg hc] at k; exact k W h
abbrev AtB (a : XAt) : Nat → As := Ob (.cells (atc a).toArray 158 (0, 0))
theorem fattr_spec (ht : Toks w0 v ts) (hf : Few ts) (h0 : 0 < ts.length) (h : St w0 G0 l W) (k : ∀ W', St w0 G0 l W' → RR (.tuple #[strV ((attrX nm (atts ts)).getD []), .bool (attrX nm (atts ts)).isSome]) W') : CallF Tryz.prog 116 #[v, strV nm] W RR := by
  refine sh116_calls ?_
  unfold sh116
  obtain ⟨t, tl, rfl⟩ : ∃ t tl, ts = t :: tl := by
    cases ts with
    | nil => cases h0
    | cons t tl => exact ⟨t, tl, rfl⟩
  have hat := hf.a t (List.mem_cons_self ..)
  obtain ⟨ov, ho, hs, hats⟩ := ht
  obtain ⟨va, hva⟩ := tk_ov ho (i := 0) (tk := t) rfl
  have hil := (List.getElem?_eq_some_iff.1 hva).1
  obtain ⟨o1, hs3⟩ := hats _ (List.mem_of_getElem? hva)
  replace hs3 : Sl w0 3 va t.attrs.length (rcells atc t.attrs) := hs3
  refine x_fld (i := 0) (hs.below h.low) hil (by decide) (by rw [rc_get tcell_len hva (by decide)]; rfl) ?_
  refine x_lenS hs3 ?_
  replace k : ∀ W', St w0 G0 l W' → RR (.tuple #[strV ((attrX nm t.attrs).getD []), .bool (attrX nm t.attrs).isSome]) W' := k
  generalize t.attrs = L at *
  refine lpx (α := Nat) (fun i => [nV .i64 i]) (fun i W => i ≤ L.length ∧ attrX nm L = attrX nm (L.drop i) ∧ St w0 G0 l W) (fun i => L.length - i) 0 (fun _ => rfl) rfl ⟨Nat.zero_le _, rfl, h⟩ ?_
  clear h
  rintro next i W hnext ⟨q1, q2, h⟩
  refine app1 ?_
  refine a_lss (ifd (fun hc => ?_) fun hc => ?_)
  · have hi : i < L.length := by omega
    have ga : L[i]? = some L[i] := List.getElem?_eq_getElem hi
    have hdr : L.drop i = L[i] :: L.drop (i + 1) := List.drop_eq_getElem_cons hi
    generalize L[i] = a at ga hdr
    rw [hdr, attrX_cons] at q2
    refine x_rcl atc_len (hs3.below h.low) rfl ga ?_
    refine h.allocS fun b W h => ?_
    refine h.storeS (cs' := atc a) fun W h => ?_
    replace h : St w0 G0 (Ky b (AtB a) :: l) W := h
    refine jni (fun vs W' => vs = [strV nm, va, nV .i64 L.length, nV .i64 i] ∧ attrX nm L = attrX nm (L.drop (i + 1)) ∧ St w0 G0 (Ky b (AtB a) :: l) W') ?_ ?_
    · rintro vs W _ ⟨rfl, e, h⟩
      refine app4 (a_add64 (by omega) (by omega) ⟨rfl, rfl, rfl, ?_⟩)
      rw [show ((i : Int) + 1) = ((i + 1 : Nat) : Int) by push_cast; rfl]
      exact hnext (i + 1) W (by omega) ⟨by omega, e, h.to⟩
    refine a_fld0 (h.load (w_eqlL (b := []) (ifd (fun h1 => ?_) fun h1 => ?_)))
    · refine a_fld0 (h.load (w_eqlL (ifd (fun h2 => ?_) fun h2 => ?_)))
      · rw [if_pos ⟨h1, h2⟩] at q2
        rw [q2] at k
        refine a_fld0 (h.load ?_)
        exact k W h.to
      · rw [if_neg fun hh => h2 hh.2] at q2
        exact ⟨rfl, q2, h⟩
    · rw [if_neg fun hh => h1 hh.1] at q2
      exact ⟨rfl, q2, h⟩
  · rw [List.drop_of_length_le (by omega)] at q2
    rw [q2] at k
    exact k W h
theorem Few.inT (h : Few ts) : (inT sp nm ts).length ≤ 90000000000 := Nat.le_trans (trimX_le _) h.child.tx
abbrev entC (e : Ent) : List Value := [.int .i64 e.num, strV e.guid, strV e.title, strV e.link, .int .i64 e.when_]
abbrev EnB (e : Ent) : Nat → As := Ob (.cells (entC e).toArray 34 (0, 0))
theorem item_spec (ht : Toks w0 v ts) (hf : Few ts) (h : St w0 G0 l W) (k : ∀ W', St w0 G0 l W' → RR (.agg (entC (itemX ts)).toArray) W') : CallF Tryz.prog 50 #[v] W RR := by
  refine sh50_calls ?_
  unfold sh50
  refine h.allocS fun t2 W h => ?_
  refine inT_spec (sp := []) (nm := tGuid) ht hf h fun W h => ?_
  refine inT_spec (sp := []) (nm := tTitle) ht hf h fun W h => ?_
  refine inT_spec (sp := []) (nm := tLink) ht hf h fun W h => ?_
  refine inT_spec (sp := []) (nm := tPub) ht hf h fun W h => ?_
  refine fwhen_spec h (by have := hf.inT (sp := []) (nm := tPub); omega) fun W h => ?_
  refine x_bld (cells := (entC (itemX ts)).toArray) (by kernel_rfl) ?_
  refine h.storeS (cs' := entC (itemX ts)) fun W h => ?_
  refine h.loadS ?_
  exact k W h.to
end
end Go.Proofs.YtlflpbflpcmckaaGreatDoor
namespace Go.Proofs.YtlflpbflpcmckaaGreatDoor
open Go Go.Ez Go.RowKit Go.Lib
set_option linter.unusedSimpArgs false
set_option linter.unusedVariables false
theorem attrX_mem {nm h : Txt} : ∀ {l : List XAt}, attrX nm l = some h → ∃ a ∈ l, a.value = h
  | [], e => by cases e
  | a :: l, e => by
    rw [attrX_cons] at e
    split at e
    · exact ⟨a, List.mem_cons_self .., Option.some.inj e⟩
    · obtain ⟨b, hb, hv⟩ := attrX_mem e
      exact ⟨b, List.mem_cons_of_mem _ hb, hv⟩
theorem linkGo_cons (c : List XTk) (l : List (List XTk)) : linkGo (c :: l) = match linkOk c with | some h => trimX h | none => linkGo l := rfl
section
variable {w0 W W' : World} {G : Nat → Prop} {l R R1 R2 : List As} {RR : Value → World → Prop} {s sp nm : Txt} {v : Value} {ts : List XTk} {t : XTk} {i n b : Nat} {K : Value → Prop} {k0 : IntKind}
theorem Few.av (h : Few ts) : ((attrX nm (atts ts)).getD []).length ≤ 1000000000 := by
  cases hx : attrX nm (atts ts) with
  | none => exact Nat.zero_le _
  | some y =>
    obtain ⟨a, ha, rfl⟩ := attrX_mem hx
    cases ts with
    | nil => cases ha
    | cons t tl => exact h.v t (List.mem_cons_self ..) a ha
abbrev LkC (t2 : Nat) (L : List (List XTk)) (i : Nat) : As := As.all (linkGo L = linkGo (L.drop i)) [Ky t2 (Ob (.cells [strV []].toArray 9 (0, 0)))]
abbrev LkD (t2 : Nat) (L : List (List XTk)) (c : Code) (_ : Nat) : As := As.all (c = .ret) [Ky t2 (Ob (.cells [strV (linkGo L)].toArray 9 (0, 0)))]
theorem link_spec (ht : Toks w0 v ts) (hf : Few ts) (h : St w0 G0 l W) (k : ∀ W', St w0 G0 l W' → RR (strV (linkGo (subs tAtom tLink ts))) W') : CallF Tryz.prog 89 #[v] W RR := by
  refine sh89_calls ?_
  unfold sh89
  refine h.alloc fun t2 W h => ?_
  refine children_spec (sp := tAtom) (nm := tLink) ht h fun t3 t4 t5 W h => ?_
  have hI := children_itr (t3 := t3) (t4 := t4) (t5 := t5) (sp := tAtom) (nm := tLink) ht hf
  have hL : (subs tAtom tLink ts).length = (kidsV v tAtom tLink ts).length := by unfold subs kidsV; simp
  refine rngI (C := LkC t2 (subs tAtom tLink ts)) (Dd := LkD t2 (subs tAtom tLink ts)) hI kidsV_one (l := l) ?_ ?_ ?_ ?_
  · exact St.shut1 rfl h.to
  · intro i x hxi ll rec I W kn ks h hkn hks
    obtain ⟨p, hp, rfl⟩ := kidsV_get hxi
    have hpk := kids_ok hp
    refine app1 ?_
    refine ⟨h.ob (b := ll), ?_⟩
    replace h := h.putO (b := ll) (o := .loop (rec .ready none)) (.loop (rec .busy none))
    replace h : St w0 G0 (Ky i (LkC t2 (subs tAtom tLink ts)) :: Ky ll (Ob (.loop (rec .busy none))) :: I) _ := h.to
    obtain ⟨hi0, h2⟩ := St.open1 h
    clear h
    have h := h2
    clear h2
    refine app2 ?_
    have tp := ht.sub (p := p) (by omega) hpk.2
    have hlp : 0 < (subN ts p).length := by unfold subN; rw [List.length_take, List.length_drop]; omega
    have hg : (subs tAtom tLink ts)[i]? = some (subN ts p) := by unfold subs; rw [List.getElem?_map, hp]; rfl
    have hil := (List.getElem?_eq_some_iff.1 hg).1
    have hdr : (subs tAtom tLink ts).drop i = subN ts p :: (subs tAtom tLink ts).drop (i + 1) := by
      rw [List.drop_eq_getElem_cons hil]
      congr 1
      exact (List.getElem?_eq_some_iff.1 hg).2
    rw [hdr, linkGo_cons] at hi0
    have hfp : Few (subN ts p) := hf.sub
    have hav := hfp.av (nm := tHref)
    generalize subN ts p = c at *
    refine fattr_spec (nm := tHref) tp hfp hlp h fun W h => a_ext0 (a_ext1 ?_)
    refine fattr_spec (nm := tRel) tp hfp hlp h fun W h => a_ext0 (a_ext1 ?_)
    unfold linkOk at hi0
    refine jni (fun vs W' => linkGo (subs tAtom tLink ts) = linkGo ((subs tAtom tLink ts).drop (i + 1)) ∧ St w0 G0 (Ky t2 (Ob (.cells [strV []].toArray 9 (0, 0))) :: Ky ll (Ob (.loop (rec .busy none))) :: I) W') ?_ ?_
    · rintro vs W hvs ⟨e, h⟩
      obtain rfl := List.eq_nil_of_length_eq_zero hvs
      exact app0 (hkn W (St.swap (St.shut1 e h.to)))
    have stop : ∀ y, linkGo (subs tAtom tLink ts) = trimX y → y.length ≤ 1000000000 → CallF Tryz.prog 15 #[strV y] W fun t31 w => RunU Tryz.prog (Instr.storeAt 9 (.pointer (some ⟨t2, 0, none⟩)) t31) w fun w => ks .ret w := fun y e hy => by
      refine ftrim_spec h (by omega) fun W h => h.store fun W h => ?_
      rw [← e] at h
      exact hks .ret W (St.swap (St.shut1 rfl h.to))
    cases hx : attrX tHref (atts c) with
    | none =>
      rw [hx] at hi0
      exact iff' ⟨hi0, h.to⟩
    | some y =>
      rw [hx] at hi0 hav
      refine ift ?_
      cases hr : attrX tRel (atts c) with
      | none =>
        rw [hr] at hi0
        exact a_not (ift (stop y hi0 hav))
      | some r =>
        rw [hr] at hi0
        refine a_not (iff' (w_eqlL (ifd (fun he => ?_) fun he => ?_)))
        · dsimp only at hi0
          rw [if_pos (show r = tAlt from he)] at hi0
          exact stop y hi0 hav
        · dsimp only at hi0
          rw [if_neg (show ¬ r = tAlt from he)] at hi0
          exact ⟨hi0, h.to⟩
  · intro D W h
    replace h : St w0 G0 (Ky (kidsV v tAtom tLink ts).length (LkC t2 (subs tAtom tLink ts)) :: Ky D (Ob (.deferred (some []))) :: Ky (chFn t3 t4 t5) (ChA t3 t4 t5 v tAtom tLink) :: l) W := h.swap
    obtain ⟨h0, h⟩ := St.open1 h
    rw [← hL, List.drop_length] at h0
    rw [h0] at k
    refine h.store fun W h => ?_
    refine ⟨h.ob (b := D), ?_⟩
    replace h := h.putO (b := D) (o := .deferred (some [])) (.deferred none)
    refine h.load ?_
    exact k _ h.to
  · intro D c i W hi h
    replace h : St w0 G0 (Ky i (LkD t2 (subs tAtom tLink ts) c) :: Ky D (Ob (.deferred (some []))) :: Ky (chFn t3 t4 t5) (ChA t3 t4 t5 v tAtom tLink) :: l) W := h.swap
    obtain ⟨hcc, h2⟩ := St.open1 h
    clear h
    subst hcc
    have h := h2
    clear h2
    refine ⟨h.ob (b := D), ?_⟩
    replace h := h.putO (b := D) (o := .deferred (some [])) (.deferred none)
    refine h.load ?_
    exact k _ h.to
theorem entry_spec (ht : Toks w0 v ts) (hf : Few ts) (h : St w0 G0 l W) (k : ∀ W', St w0 G0 l W' → RR (.agg (entC (entryX ts)).toArray) W') : CallF Tryz.prog 51 #[v] W RR := by
  refine sh51_calls ?_
  unfold sh51
  refine h.allocS fun t2 W h => ?_
  refine child_spec (sp := tAtom) (nm := tUpd) ht hf h fun v1 W h t1 => a_ext0 (a_ext1 ?_)
  refine jni (fun vs W' => ∃ v2, vs = [v, .pointer (some ⟨t2, 0, none⟩), v2] ∧ Toks w0 v2 (dateN ts) ∧ St w0 G0 (Ky t2 (EnB ⟨0, [], [], [], 0⟩) :: l) W') ?_ ?_
  · rintro vs W _ ⟨v2, rfl, t2', h⟩
    refine app3 ?_
    have hfd : Few (dateN ts) := by
      unfold dateN
      have h1 := hf.child (sp := tAtom) (nm := tUpd)
      cases hc : childX tAtom tUpd ts with
      | none => exact hf.child
      | some c => rw [hc] at h1; exact h1
    refine inT_spec (sp := tAtom) (nm := tId) ht hf h fun W h => ?_
    refine inT_spec (sp := tAtom) (nm := tTitle) ht hf h fun W h => ?_
    refine link_spec ht hf h fun W h => ?_
    refine text_spec t2' hfd h fun W h => ?_
    refine fwhen_spec h (by have := Nat.le_trans (trimX_le (innerX (dateN ts) 0).1) hfd.tx; unfold textX; omega) fun W h => ?_
    refine x_bld (cells := (entC (entryX ts)).toArray) (by kernel_rfl) ?_
    refine h.storeS (cs' := entC (entryX ts)) fun W h => ?_
    refine h.loadS ?_
    exact k W h.to
  · cases hc : childX tAtom tUpd ts with
    | none =>
      refine a_not (ift ?_)
      refine child_spec (sp := tAtom) (nm := tPubl) ht hf h fun v2 W h t2' => a_ext0 (a_ext1 ?_)
      exact ⟨v2, rfl, by unfold dateN; rw [hc]; exact t2', h.to⟩
    | some c =>
      rw [hc] at t1
      refine a_not (iff' ?_)
      exact ⟨v1, rfl, by unfold dateN; rw [hc]; exact t1, h.to⟩
end
end Go.Proofs.YtlflpbflpcmckaaGreatDoor
namespace Go.Ez
open Go Go.Proofs Go.RowKit
section
variable {w0 W W' : World} {G : Nat → Prop} {l l' : List As}
/-- what a call made for itself, laid beside what was -/
theorem St.frame (h : St w0 G l W) (h' : St W G0 l' W') : St w0 G (l' ++ l) W' := by
  have hb := h'.low
  have h2 := h.ext hb
  obtain ⟨F, hF, hG⟩ := h.own
  obtain ⟨F', hF', hG'⟩ := h'.own
  refine { h2 with own := ⟨fun b => F' b ∨ F b, sepL_append.2 ⟨F', F, hF', sepL_loc hF fun b h => hb.block b (sepL_lt hF b h), fun b h1 h2 => ?_, fun _ => Iff.rfl⟩, fun b hb => ?_⟩ }
  · rcases hG' b h1 with h3 | h3
    · exact h3.elim
    · have := sepL_lt hF b h2; omega
  · rcases hb with h1 | h1
    · rcases hG' b h1 with h3 | h3
      · exact h3.elim
      · exact .inr (Nat.le_trans h.size h3)
    · exact hG b h1
theorem St.frame1 {A : As} (h : St w0 G l W) (h' : St W G0 [A] W') : St w0 G (A :: l) W' := h.frame h'
end
theorem addX_len (l : List Ent) (e : Ent) : (addX l e).length ≤ l.length + 1 := by
  unfold addX
  split
  · omega
  · simp
theorem foldX_len {α : Type} (g : α → Ent) : ∀ (L : List α) (l : List Ent), (L.foldl (fun l c => addX l (g c)) l).length ≤ l.length + L.length
  | [], l => Nat.le_refl _
  | c :: L, l => by
    have := foldX_len g L (addX l (g c))
    have h1 := addX_len l (g c)
    rw [List.foldl_cons, List.length_cons]
    omega
end Go.Ez
namespace Go.Proofs.YtlflpbflpcmckaaGreatDoor
open Go Go.Ez Go.RowKit Go.Lib
set_option linter.unusedSimpArgs false
set_option linter.unusedVariables false
theorem w_max3 {P : Program} {w : World} {K : Value → Prop} {ts : Array TypeId} {t : TypeId} {k k' k'' : IntKind} {a b c : Int} (h : K (.int k (max (max a b) c))) : RunW P (Builtin.max_ ts t #[.int k a, .int k' b, .int k'' c]) w K :=
  .of (run_max_int3 (P := P) (w := w) ts t k k' k'' a b c) (by
    have : (if c > (if b > a then b else a) then c else (if b > a then b else a)) = max (max a b) c := by omega
    rw [this]; exact h)
theorem entC_len (e : Ent) : (entC e).length = 5 := rfl
theorem entC_one (e : Ent) : ∀ c ∈ entC e, c.oneCell' = true := by
  intro c hc
  simp only [List.mem_cons, List.not_mem_nil, or_false] at hc
  rcases hc with rfl | rfl | rfl | rfl | rfl <;> rfl
/-- v tells entries -/
def Ens (W : World) (v : Value) (L : List Ent) : Prop := Sl W 5 v L.length (rcells entC L)
abbrev FdB (b : Nat) (t : Txt) (ve : Value) : As := Ky b (Ob (.cells [strV t, ve].toArray 27 (0, 0)))
abbrev EnS (L : List Ent) : Value → As := Ow 34 5 L.length (rcells entC L)
/-- a feed under way -/
def FdO (t : Txt) (L : List Ent) (b : Nat) : As := As.ex fun ve : Value => As.all (Cel1 ve) [FdB b t ve, Ky ve (EnS L)]
section
variable {w0 W W' : World} {G : Nat → Prop} {l R R1 R2 : List As} {RR : Value → World → Prop} {s sp nm tt : Txt} {v ve f : Value} {ts : List XTk} {t : XTk} {i n b : Nat} {K : Value → Prop} {k0 : IntKind} {L : List Ent} {e : Ent} {p : Ent → Bool}
theorem openF [i : Has l b (FdO tt L) R] (h : St w0 G l W) : ∃ ve, Cel1 ve ∧ St w0 G (FdB b tt ve :: Ky ve (EnS L) :: R) W := by
  obtain ⟨ve, h⟩ := St.openE (show St w0 G (As.ex (fun ve : Value => As.all (Cel1 ve) [FdB b tt ve, Ky ve (EnS L)]) :: R) W from h.find (k := b) (X := FdO tt L))
  obtain ⟨o, h⟩ := St.open2 h
  exact ⟨ve, o, h⟩
theorem shutF (o : Cel1 ve) (h : St w0 G (FdB b tt ve :: Ky ve (EnS L) :: l) W) : St w0 G (Ky b (FdO tt L) :: l) W := St.shutE ve (St.shut2 o h)
theorem idxEn_spec (hs : ∀ W, St w0 G0 l W → Sl W 5 v L.length (rcells entC L)) (hL : L.length ≤ 1000000) (hp : ∀ x ∈ L, ∀ (W : World) (K : Value → World → Prop), St w0 G0 l W → (∀ W', St w0 G0 l W' → K (.bool (p x)) W') → CallV Tryz.prog f #[.agg (entC x).toArray] W K)
    (h : St w0 G0 l W) (k : ∀ W' (n : Int), (0 ≤ n ↔ L.any p = true) → St w0 G0 l W' → RR (.int .i64 n) W') : CallF Tryz.prog 90 #[v, f] W RR := by
  refine sh90_calls ?_
  unfold sh90
  refine x_lenS (hs W h) ?_
  refine lpx (α := Nat) (fun i => [nV .i64 i]) (fun i W => i ≤ L.length ∧ L.any p = (L.drop i).any p ∧ St w0 G0 l W) (fun i => L.length - i) 0 (fun _ => rfl) rfl ⟨Nat.zero_le _, rfl, h⟩ ?_
  clear h
  rintro next i W hnext ⟨q1, q2, h⟩
  refine app1 ?_
  refine a_lss (ifd (fun hc => ?_) fun hc => ?_)
  · have hi : i < L.length := by omega
    have ga : L[i]? = some L[i] := List.getElem?_eq_getElem hi
    have hdr : L.drop i = L[i] :: L.drop (i + 1) := List.drop_eq_getElem_cons hi
    have hm := List.getElem_mem hi
    generalize L[i] = a at ga hdr hm
    rw [hdr, List.any_cons] at q2
    refine x_rcl entC_len (hs W h) rfl ga ?_
    refine hp a hm W _ h fun W h => ifb (fun ht => ?_) fun ht => ?_
    · exact k W i (by rw [q2, ht]; simp) h
    · rw [ht, Bool.false_or] at q2
      refine a_add64 (by omega) (by omega) ⟨rfl, rfl, rfl, ?_⟩
      rw [show ((i : Int) + 1) = ((i + 1 : Nat) : Int) by push_cast; rfl]
      exact hnext (i + 1) W (by omega) ⟨by omega, q2, h⟩
  · rw [List.drop_of_length_le (by omega)] at q2
    exact k W (-1) (by rw [q2]; simp) h
theorem hasEn_spec (hs : ∀ W, St w0 G0 l W → Sl W 5 v L.length (rcells entC L)) (hL : L.length ≤ 1000000) (hp : ∀ x ∈ L, ∀ (W : World) (K : Value → World → Prop), St w0 G0 l W → (∀ W', St w0 G0 l W' → K (.bool (p x)) W') → CallV Tryz.prog f #[.agg (entC x).toArray] W K)
    (h : St w0 G0 l W) (k : ∀ W', St w0 G0 l W' → RR (.bool (L.any p)) W') : CallF Tryz.prog 52 #[v, f] W RR := by
  refine sh52_calls ?_
  unfold sh52
  refine idxEn_spec hs hL hp h fun W n hn h => a_geq ?_
  have e : decide ((n : Int) ≥ 0) = L.any p := by
    rw [Bool.eq_iff_iff, decide_eq_true_iff]
    exact hn
  rw [e]
  exact k W h
theorem fsame_spec [i : Has l b (EnB e) R] (h : St w0 G0 l W) {x : Ent} (k : ∀ W', St w0 G0 l W' → RR (.bool (decide (x.guid = e.guid))) W') : CallF Tryz.prog 87 #[.agg (entC x).toArray, .pointer (some ⟨b, 0, none⟩)] W RR := by
  refine sh87_calls ?_
  unfold sh87
  refine h.boxS (cs := entC x) fun b1 W h => ?_
  replace h : St w0 G0 (Ky b1 (EnB x) :: l) W := h
  exact a_fld0 (h.load (a_fld0 (h.load (w_eqlL (k _ h.tail)))))
theorem adds_spec [i : Has l b (FdO tt L) R] (h : St w0 G0 l W) (hL : L.length ≤ 1000000) (k : ∀ W', St w0 G0 (Ky b (FdO tt (addX L e)) :: R) W' → RR (.tuple #[]) W') : CallF Tryz.prog 49 #[.pointer (some ⟨b, 0, none⟩), .agg (entC e).toArray] W RR := by
  refine sh49_calls ?_
  unfold sh49
  replace h := h.find (k := b) (X := FdO tt L)
  refine h.boxS (cs := entC e) fun t3 W h => ?_
  replace h : St w0 G0 (Ky t3 (EnB e) :: Ky b (FdO tt L) :: R) W := h
  refine jni (fun vs W' => vs = [.pointer (some ⟨b, 0, none⟩), .pointer (some ⟨t3, 0, none⟩)] ∧ St w0 G0 (Ky t3 (EnB { e with guid := guidX e }) :: Ky b (FdO tt L) :: R) W') ?_ ?_
  · rintro vs W _ ⟨rfl, h⟩
    refine app2 ?_
    have skip : (guidX e = [] ∨ (L.any fun x => decide (x.guid = guidX e)) = true) → ∀ {W}, St w0 G0 (Ky t3 (EnB { e with guid := guidX e }) :: Ky b (FdO tt L) :: R) W → RR (.tuple #[]) W := fun hc {W} h => by
      unfold addX at k
      rw [if_pos hc] at k
      exact k W h.tail
    refine a_fld0 (h.load (w_eqlL (b := []) (ifd (fun hg => skip (.inl hg) h) fun hg => ?_)))
    replace h : St w0 G0 (Ky b (FdO tt L) :: Ky t3 (EnB { e with guid := guidX e }) :: R) W := h.swap
    obtain ⟨ve, ove, h⟩ := openF (b := b) (tt := tt) (L := L) h
    replace h : St w0 G0 (Ky t3 (EnB { e with guid := guidX e }) :: FdB b tt ve :: Ky ve (EnS L) :: R) W := h.to
    refine a_nil (a_fld0 (h.load (v_func ?_)))
    refine hasEn_spec (l := Ky t3 (EnB { e with guid := guidX e }) :: FdB b tt ve :: Ky ve (EnS L) :: R) (L := L) (p := fun x => decide (x.guid = guidX e)) (fun W h => h.osl (v := ve)) hL (fun x hx W K h kk => ?_) h fun W h => ifb (fun hany => ?_) fun hany => ?_
    · refine callV_cl (hentD _ (by kernel_rfl)) ?_
      exact fsame_spec (b := t3) (e := { e with guid := guidX e }) (x := x) h kk
    · refine skip (.inr hany) (St.swap (shutF ove ?_))
      exact h.to
    unfold addX at k
    rw [if_neg (by rw [hany]; simpa using hg)] at k
    refine a_nil (a_fld0 (h.load (x_lenS (h.osl (v := ve)) (a_fld0 (h.store fun W h => ?_)))))
    replace h : St w0 G0 (Ky t3 (EnB { e with guid := guidX e, num := L.length }) :: FdB b tt ve :: Ky ve (EnS L) :: R) W := h.to
    generalize hE : ({ e with guid := guidX e, num := (L.length : Int) } : Ent) = E at *
    refine ⟨fun W => Rec W b 27 [strV tt, ve] ∧ Rec W t3 34 (entC E), ⟨h.drew.rc, h.drew.rc⟩, ?_⟩
    replace h := h.drew
    refine a_nil (a_fld0 (s_ld (t := 27) (cs := [strV tt, ve]) (fun w hw => hw.1) rfl ?_))
    refine s_lds (cs := entC E) (fun w hw => hw.2) ?_
    refine h.lit fun u1 W w1 h => ⟨⟨h.rc, h.rc⟩, ?_⟩
    refine h.app (v := ve) (h.osl (v := u1)) (entC_one E) (by unfold maxLen; omega) (by omega) fun va2 W o1 h _ => ?_
    refine a_nil (a_fld0 (h.store fun W h => ?_))
    have e1 : L.length + 1 = (L ++ [E]).length := by simp
    have e2 : rcells entC L ++ entC E = rcells entC (L ++ [E]) := by rw [rc_append, rc_single]
    rw [e2, e1] at h
    exact k W (shutF o1 h.to)
  · refine a_fld0 (h.load (w_eqlL (b := []) (ifd (fun hg => ?_) fun hg => ?_)))
    · have e1 : guidX e = e.link := by unfold guidX; rw [if_pos hg]
      rw [e1]
      refine a_fld0 (h.load (a_fld0 (h.store fun W h => ⟨rfl, h.to⟩)))
    · have e1 : guidX e = e.guid := by unfold guidX; rw [if_neg hg]
      rw [e1]
      exact ⟨rfl, h⟩
theorem longE_spec (h : St w0 G l W) (k : ∀ W', St w0 G l W' → RR (.bool (longE e)) W') : CallF Tryz.prog 53 #[.agg (entC e).toArray] W RR := by
  refine sh53_calls ?_
  unfold sh53
  refine h.boxS (cs := entC e) fun b1 W h => ?_
  replace h : St w0 G (Ky b1 (EnB e) :: l) W := h
  refine a_fld0 (h.load (x_len (a_fld0 (h.load (x_len (a_fld0 (h.load (x_len (w_max3 (a_gtr ?_)))))))))) 
  have e1 : decide (max (max (e.guid.length : Int) e.title.length) e.link.length > 500) = longE e := by
    unfold longE
    rw [Bool.eq_iff_iff, decide_eq_true_iff, decide_eq_true_iff]
    omega
  rw [e1]
  exact k W h.tail
theorem wrong_spec (hs : Ens w0 ve L) (hL : L.length ≤ 1000000) (h : St w0 G0 l W) (k : ∀ W', St w0 G0 l W' → RR (.int .i64 (wrongX (tt, L))) W') : CallF Tryz.prog 28 #[.agg #[strV tt, ve]] W RR := by
  refine sh28_calls ?_
  unfold sh28
  haveI : Cel1 ve := Cel1.of_sl hs
  refine h.boxS (cs := [strV tt, ve]) fun b1 W h => ?_
  unfold wrongX at k
  simp only at k
  refine a_fld0 (h.load (x_lenS hs (a_gtr (ifd (fun hc => ?_) fun hc => ?_))))
  · rw [if_pos (by omega)] at k
    exact k W h.tail
  rw [if_neg (by omega)] at k
  refine a_fld0 (h.load (x_len (a_gtr (ifd (fun hc => ?_) fun hc => ?_))))
  · rw [if_pos (.inl (by omega))] at k
    exact k W h.tail
  refine a_fld0 (h.load ?_)
  refine hasEn_spec (p := longE) (fun W h => Sl.below hs h.low) hL (fun x hx W K h kk => callV_fn (hentD _ (by kernel_rfl)) (longE_spec h kk)) h fun W h => ifb (fun ha => ?_) fun ha => ?_
  · rw [if_pos (.inr ha)] at k
    exact k W h.tail
  · rw [if_neg (by rw [ha]; simp; omega)] at k
    exact k W h.tail
end
end Go.Proofs.YtlflpbflpcmckaaGreatDoor
namespace Go.Proofs.YtlflpbflpcmckaaGreatDoor
open Go Go.Ez Go.RowKit Go.Lib
set_option linter.unusedSimpArgs false
set_option linter.unusedVariables false
section
variable {w0 W W' : World} {G : Nat → Prop} {l R R1 R2 : List As} {RR : Value → World → Prop} {s sp nm tt : Txt} {v ve f : Value} {ts : List XTk} {t : XTk} {i n b : Nat} {K : Value → Prop} {k0 : IntKind} {L : List Ent} {e : Ent} {p : Ent → Bool}
abbrev RfC (t7 : Nat) (tt : Txt) (g : List XTk → Ent) (L : List (List XTk)) (i : Nat) : As := As.all True [Ky t7 (FdO tt ((L.take i).foldl (fun l c => addX l (g c)) []))]
abbrev FdZ : Nat → As := Ob (.cells [(.string ⟨#[]⟩ : Value), .slice none 0 0].toArray 27 (0, 0))
abbrev RfD (_ : Code) (_ : Nat) : As := As.all False []
theorem foldl_take {g : List XTk → Ent} {L : List (List XTk)} {i : Nat} {c : List XTk} (h : L[i]? = some c) : (L.take (i + 1)).foldl (fun l c => addX l (g c)) [] = addX ((L.take i).foldl (fun l c => addX l (g c)) []) (g c) := by
  rw [List.take_add_one, h, List.foldl_append]; rfl
theorem subs_get {i : Nat} {p : Nat × Nat} (h : (kids sp nm ts)[i]? = some p) : (subs sp nm ts)[i]? = some (subN ts p) := by unfold subs; rw [List.getElem?_map, h]; rfl
theorem subs_few (hf : Few ts) : (subs sp nm ts).length ≤ 90000 := by
  unfold subs kids
  rw [List.length_map]
  exact Nat.le_trans kidsGo_len hf.n
theorem take_few {g : List XTk → Ent} {L : List (List XTk)} {i : Nat} (h : L.length ≤ 90000) : ((L.take i).foldl (fun l c => addX l (g c)) []).length ≤ 1000000 := by
  have := foldX_len g (L.take i) []
  rw [List.length_take, List.length_nil] at this
  omega
theorem read_spec (ht : Toks w0 v ts) (hf : Few ts) (h0 : 0 < ts.length) (h : St w0 G0 l W) (k : ∀ ve W', Cel1 ve → St w0 G0 (Ky ve (EnS (readX ts).1.2) :: l) W' → RR (.tuple #[.agg #[strV (readX ts).1.1, ve], .bool (readX ts).2]) W') : CallF Tryz.prog 27 #[v] W RR := by
  refine sh27_calls ?_
  unfold sh27
  obtain ⟨t, tl, hts⟩ : ∃ t tl, ts = t :: tl := by
    cases ts with
    | nil => cases h0
    | cons t tl => exact ⟨t, tl, rfl⟩
  have hrd : readX ts = if t.space = [] ∧ t.name = tRss then ((inT [] tTitle ((childX [] tChan ts).getD []), (subs [] tItem ((childX [] tChan ts).getD [])).foldl (fun l c => addX l (itemX c)) []), (childX [] tChan ts).isSome)
    else if t.space = tAtom ∧ t.name = tFeed then ((inT tAtom tTitle ts, (subs tAtom tEntry ts).foldl (fun l c => addX l (entryX c)) []), true)
    else (([], []), false) := by rw [hts]; rfl
  have g0 : ts[0]? = some t := by rw [hts]; rfl
  refine h.allocS fun t2 W h => ?_
  have ht' := ht
  obtain ⟨ov, ho, hs, hats⟩ := ht'
  obtain ⟨va, hva⟩ := tk_ov ho g0
  obtain ⟨o1, hs3⟩ := hats _ (List.mem_of_getElem? hva)
  haveI : Cel1 va := ⟨o1⟩
  refine x_rcl (i := 0) tcell_len (hs.below h.low) rfl hva ?_
  refine h.allocS fun t4 W h => ?_
  refine h.storeS (cs' := tcell (t, va)) fun W h => ?_
  clear hats hva hs ho
  have dflt : ¬ (t.space = [] ∧ t.name = tRss) → ¬ (t.space = tAtom ∧ t.name = tFeed) → RunV Tryz.prog (Instr.build 27 #[]) W fun t58 w => RunU Tryz.prog (Instr.storeAt 27 (.pointer (some ⟨t2, 0, none⟩)) t58) w fun w => RunW Tryz.prog (Instr.loadAt 27 (.pointer (some ⟨t2, 0, none⟩))) w fun x => RR (.tuple #[x, .bool false]) w := fun h1 h2 => by
    rw [hrd, if_neg h1, if_neg h2] at k
    refine x_bld (cells := #[strV [], .slice none 0 0]) (by kernel_rfl) ?_
    refine h.storeS (cs' := [strV [], .slice none 0 0]) fun W h => h.loadS ?_
    have hz : St w0 G0 (Ky (.slice none 0 0) (EnS []) :: _) W := h.nilOw
    exact k _ _ ⟨rfl⟩ hz.to
  have atomP : ¬ (t.space = [] ∧ t.name = tRss) → t.space ≠ [] → True := fun _ _ => trivial
  refine a_fld0 (h.load (w_eqlL (b := []) (ifd (fun hs1 => ?_) fun hs1 => ?_)))
  · refine a_fld0 (h.load (w_eqlL (b := tRss) (ifd (fun hn1 => ?_) fun hn1 => ?_)))
    · rw [hrd, if_pos ⟨hs1, hn1⟩] at k
      clear dflt hrd
      refine child_spec (sp := []) (nm := tChan) ht hf h fun v1 W h t1 => a_ext0 (a_ext1 ?_)
      have hf1 := hf.child (sp := []) (nm := tChan)
      generalize (childX [] tChan ts).isSome = ok at *
      generalize (childX [] tChan ts).getD [] = cs at *
      refine inT_spec (sp := []) (nm := tTitle) t1 hf1 h fun W h => ?_
      dsimp only at k
      generalize inT [] tTitle cs = tt at *
      refine x_bld (cells := #[strV tt, .slice none 0 0]) (by kernel_rfl) ?_
      refine h.allocS fun t7 W h => ?_
      refine h.storeS (cs' := [strV tt, .slice none 0 0]) fun W h => ?_
      refine children_spec (sp := []) (nm := tItem) t1 h fun a3 a4 a5 W h => ?_
      have hI := children_itr (t3 := a3) (t4 := a4) (t5 := a5) (sp := []) (nm := tItem) t1 hf1
      have hL : (subs [] tItem cs).length = (kidsV v1 [] tItem cs).length := by unfold subs kidsV; simp
      have hLn : (subs [] tItem cs).length ≤ 90000 := subs_few hf1
      refine rngI (C := RfC t7 tt itemX (subs [] tItem cs)) (Dd := RfD) hI kidsV_one (l := Ky t2 FdZ :: l) ?_ ?_ ?_ ?_
      · have hz : St w0 G0 (Ky (.slice none 0 0) (EnS []) :: _) W := h.nilOw
        refine St.shut1 trivial (shutF (L := ([] : List Ent)) (ve := .slice none 0 0) ⟨rfl⟩ ?_)
        exact hz.to
      · intro i x hxi ll rec I W kn ks h hkn hks
        obtain ⟨p, hp, rfl⟩ := kidsV_get hxi
        have hpk := kids_ok hp
        refine app1 ?_
        refine ⟨h.ob (b := ll), ?_⟩
        replace h := h.putO (b := ll) (o := .loop (rec .ready none)) (.loop (rec .busy none))
        replace h : St w0 G0 (Ky i (RfC t7 tt itemX (subs [] tItem cs)) :: Ky ll (Ob (.loop (rec .busy none))) :: I) _ := h.to
        obtain ⟨_, h⟩ := St.open1 h
        refine app2 ?_
        have tp := t1.sub (p := p) (by omega) hpk.2
        refine item_spec tp hf1.sub h fun W h => ?_
        refine adds_spec (b := t7) h (take_few hLn) fun W h => ?_
        rw [← foldl_take (subs_get hp)] at h
        exact hkn W (St.swap (St.shut1 trivial h.to))
      · intro D W h
        replace h : St w0 G0 (Ky (kidsV v1 [] tItem cs).length (RfC t7 tt itemX (subs [] tItem cs)) :: Ky D (Ob (.deferred (some []))) :: Ky (chFn a3 a4 a5) (ChA a3 a4 a5 v1 [] tItem) :: Ky t2 FdZ :: l) W := h.swap
        obtain ⟨_, h⟩ := St.open1 h
        rw [← hL, List.take_length] at h
        obtain ⟨ve, ove, h⟩ := openF (b := t7) h
        refine h.loadS (h.storeS (cs' := [strV tt, ve]) fun W h => ?_)
        refine ⟨h.ob (b := D), ?_⟩
        replace h := h.putO (b := D) (o := .deferred (some [])) (.deferred none)
        refine h.loadS ?_
        exact k ve _ ove h.to
      · intro D c i W hi h
        replace h : St w0 G0 (As.all False [] :: _) W := h.swap
        exact (St.openA h).1.elim
    · refine a_fld0 (h.load (w_eqlL (b := tAtom) (ifd_neg (by rw [hs1]; decide) ?_)))
      exact dflt (fun hh => hn1 hh.2) fun hh => absurd (hs1.symm.trans hh.1) (by decide)
  · refine a_fld0 (h.load (w_eqlL (b := tAtom) (ifd (fun hs2 => ?_) fun hs2 => ?_)))
    · refine a_fld0 (h.load (w_eqlL (b := tFeed) (ifd (fun hn2 => ?_) fun hn2 => ?_)))
      · rw [hrd, if_neg (fun hh => hs1 hh.1), if_pos ⟨hs2, hn2⟩] at k
        clear dflt hrd
        refine inT_spec (sp := tAtom) (nm := tTitle) ht hf h fun W h => ?_
        dsimp only at k
        generalize inT tAtom tTitle ts = tt at *
        refine x_bld (cells := #[strV tt, .slice none 0 0]) (by kernel_rfl) ?_
        refine h.allocS fun t7 W h => ?_
        refine h.storeS (cs' := [strV tt, .slice none 0 0]) fun W h => ?_
        refine children_spec (sp := tAtom) (nm := tEntry) ht h fun a3 a4 a5 W h => ?_
        have hI := children_itr (t3 := a3) (t4 := a4) (t5 := a5) (sp := tAtom) (nm := tEntry) ht hf
        have hL : (subs tAtom tEntry ts).length = (kidsV v tAtom tEntry ts).length := by unfold subs kidsV; simp
        have hLn : (subs tAtom tEntry ts).length ≤ 90000 := subs_few hf
        refine rngI (C := RfC t7 tt entryX (subs tAtom tEntry ts)) (Dd := RfD) hI kidsV_one (l := Ky t2 FdZ :: l) ?_ ?_ ?_ ?_
        · have hz : St w0 G0 (Ky (.slice none 0 0) (EnS []) :: _) W := h.nilOw
          refine St.shut1 trivial (shutF (L := ([] : List Ent)) (ve := .slice none 0 0) ⟨rfl⟩ ?_)
          exact hz.to
        · intro i x hxi ll rec I W kn ks h hkn hks
          obtain ⟨p, hp, rfl⟩ := kidsV_get hxi
          have hpk := kids_ok hp
          refine app1 ?_
          refine ⟨h.ob (b := ll), ?_⟩
          replace h := h.putO (b := ll) (o := .loop (rec .ready none)) (.loop (rec .busy none))
          replace h : St w0 G0 (Ky i (RfC t7 tt entryX (subs tAtom tEntry ts)) :: Ky ll (Ob (.loop (rec .busy none))) :: I) _ := h.to
          obtain ⟨_, h⟩ := St.open1 h
          refine app2 ?_
          have tp := ht.sub (p := p) (by omega) hpk.2
          refine entry_spec tp hf.sub h fun W h => ?_
          refine adds_spec (b := t7) h (take_few hLn) fun W h => ?_
          rw [← foldl_take (subs_get hp)] at h
          exact hkn W (St.swap (St.shut1 trivial h.to))
        · intro D W h
          replace h : St w0 G0 (Ky (kidsV v tAtom tEntry ts).length (RfC t7 tt entryX (subs tAtom tEntry ts)) :: Ky D (Ob (.deferred (some []))) :: Ky (chFn a3 a4 a5) (ChA a3 a4 a5 v tAtom tEntry) :: Ky t2 FdZ :: l) W := h.swap
          obtain ⟨_, h⟩ := St.open1 h
          rw [← hL, List.take_length] at h
          obtain ⟨ve, ove, h⟩ := openF (b := t7) h
          refine h.loadS (h.storeS (cs' := [strV tt, ve]) fun W h => ?_)
          refine ⟨h.ob (b := D), ?_⟩
          replace h := h.putO (b := D) (o := .deferred (some [])) (.deferred none)
          refine h.loadS ?_
          exact k ve _ ove h.to
        · intro D c i W hi h
          replace h : St w0 G0 (As.all False [] :: _) W := h.swap
          exact (St.openA h).1.elim
      · exact dflt (fun hh => hs1 hh.1) fun hh => hn2 hh.2
    · exact dflt (fun hh => hs1 hh.1) fun hh => hs2 hh.1
end
end Go.Proofs.YtlflpbflpcmckaaGreatDoor
namespace Go.Proofs.YtlflpbflpcmckaaGreatDoor
open Go Go.Ez Go.RowKit Go.Lib
set_option linter.unusedSimpArgs false
set_option linter.unusedVariables false
theorem tok_few {s : Txt} (h : (tokX s).2 = 0) : Few (tokX s).1 ∧ 2 ≤ (tokX s).1.length := by
  have hs : s.length ≤ 20000 := by
    refine Classical.byContradiction fun hn => ?_
    unfold tokX XRd.tokens at h
    rw [if_pos (by omega)] at h
    cases h
  have hl : (tokX s).1.length ≤ 3 * s.length + 8 := XRd.tokens_len (dec := decX) (sgn := signS) (b := s) decX_ok (fun q => part_len)
  have hab := tokX_ab s
  rcases XRd.tokens_pairs (dec := decX) (sgn := signS) (b := s) decX_ok with ⟨he, _⟩ | ⟨_, hch, h2⟩
  · exact absurd h he
  have hm : (s.length + 3) * (s.length + 3 + 1) ≤ 20003 * 20004 := Nat.mul_le_mul (by omega) (by omega)
  refine ⟨⟨by omega, fun t ht => by have := (hab t ht).1; omega, fun t ht => ?_, fun t ht a ha => by have := (hab t ht).2.2 a ha; omega⟩, h2⟩
  by_cases hk : t.kind = 3
  · obtain ⟨i, hi⟩ := List.getElem?_of_mem ht
    have hc : ∀ j, j ≤ i → ∃ st, XRd.chk ((tokX s).1.take j) [] [] = some st := by
      intro j
      induction j with
      | zero => intro _; exact ⟨[], by rw [List.take_zero]; rfl⟩
      | succ j ih =>
        intro hj
        obtain ⟨st, hst⟩ := ih (by omega)
        have hil := (List.getElem?_eq_some_iff.1 hi).1
        obtain ⟨st', _, h3⟩ := XRd.chk_at hch (List.getElem?_eq_getElem (by omega : j < (tokX s).1.length)) hst
        exact ⟨st', h3⟩
    obtain ⟨st, hst⟩ := hc i (Nat.le_refl _)
    obtain ⟨st', h3, _⟩ := XRd.chk_at hch hi hst
    unfold XRd.chkStep at h3
    rw [if_neg (by omega), if_neg (by omega), if_pos hk] at h3
    split at h3
    · cases h3
    · rename_i hh
      have : ¬ 8000 < t.text.length := fun hx => hh (.inr (.inr (.inl hx)))
      omega
  · rw [(hab t ht).2.1 hk]; exact Nat.zero_le _
section
variable {w0 W W' : World} {G : Nat → Prop} {l R R1 R2 : List As} {RR : Value → World → Prop} {s : Txt} {v ve f : Value}
theorem fparse_spec (hT : XTabs w0) (hv : By w0 v s) (h : St w0 G0 l W) (k : ∀ ve W', Cel1 ve → St w0 G0 (Ky ve (EnS (feedX (tokX s)).1.2) :: l) W' → RR (.tuple #[.agg #[strV (feedX (tokX s)).1.1, ve], .int .i64 (feedX (tokX s)).2]) W') : CallF Tryz.prog 10 #[v] W RR := by
  refine sh10_calls ?_
  unfold sh10
  refine h.allocS fun t2 W h => ?_
  refine tokens_spec hT (s := s) h (hv.below h.low) fun v1 W h t1 => a_ext0 (a_ext1 ?_)
  have hfew := tok_few (s := s)
  have errP : ∀ (c : Int) W, St w0 G0 (Ky t2 FdZ :: l) W → feedX (tokX s) = (([], []), c) → RunV Tryz.prog (Instr.build 27 #[]) W fun t58 w => RunU Tryz.prog (Instr.storeAt 27 (.pointer (some ⟨t2, 0, none⟩)) t58) w fun w => RunW Tryz.prog (Instr.loadAt 27 (.pointer (some ⟨t2, 0, none⟩))) w fun x => RR (.tuple #[x, .int .i64 c]) w := fun c W h e => by
    rw [e] at k
    refine x_bld (cells := #[strV [], .slice none 0 0]) (by kernel_rfl) ?_
    refine h.storeS (cs' := [strV [], .slice none 0 0]) fun W h => h.loadS ?_
    have hz : St w0 G0 (Ky (.slice none 0 0) (EnS []) :: _) W := h.nilOw
    exact k _ _ ⟨rfl⟩ hz.to
  generalize tokX s = p at *
  refine w_neq (ifd (fun hc => ?_) fun hc => ?_)
  · exact errP _ W h.to (by unfold feedX; rw [if_pos hc])
  have hp0 : p.2 = 0 := by omega
  obtain ⟨hf, h2⟩ := hfew hp0
  refine read_spec t1 hf (by omega) (St.start W) fun ve W ove h' => a_ext0 (a_ext1 ?_)
  replace h := h.frame1 h'
  refine h.allocS fun t6 W h => ?_
  refine h.storeS (cs' := [strV (readX p.1).1.1, ve]) fun W h => ?_
  replace h : St w0 G0 (Ky t6 (Ob (.cells [strV (readX p.1).1.1, ve].toArray 27 (0, 0))) :: Ky ve (EnS (readX p.1).1.2) :: Ky t2 FdZ :: l) W := h.to
  refine a_not (ifnb (fun hr => ?_) fun hr => ?_)
  · exact errP _ W h.to (by unfold feedX; rw [if_neg hc, if_pos hr])
  refine h.loadS ?_
  have hwf : (wrongX (readX p.1).1 : Int) = wrongX ((readX p.1).1.1, (readX p.1).1.2) := rfl
  have hln : (readX p.1).1.2.length ≤ 1000000 := by
    unfold readX
    cases hp1 : p.1 with
    | nil => exact Nat.zero_le _
    | cons t tl =>
      rw [hp1] at hf
      simp only
      split
      · have := take_few (g := itemX) (L := subs [] tItem ((childX [] tChan (t :: tl)).getD [])) (i := (subs [] tItem ((childX [] tChan (t :: tl)).getD [])).length) (subs_few hf.child)
        rw [List.take_length] at this
        exact this
      · split
        · have := take_few (g := entryX) (L := subs tAtom tEntry (t :: tl)) (i := (subs tAtom tEntry (t :: tl)).length) (subs_few hf)
          rw [List.take_length] at this
          exact this
        · exact Nat.zero_le _
  refine wrong_spec (tt := (readX p.1).1.1) (L := (readX p.1).1.2) (h.osl (v := ve)) hln (St.start W) fun W h' => ?_
  replace h := h.ext h'.low
  rw [← hwf]
  refine w_neq (ifd (fun hw => ?_) fun hw => ?_)
  · exact errP _ W h.to (by unfold feedX; rw [if_neg hc, if_neg (by rw [hr]; decide), if_pos hw])
  · have e : feedX p = ((readX p.1).1, 0) := by unfold feedX; rw [if_neg hc, if_neg (by rw [hr]; decide), if_neg hw]
    rw [e] at k
    refine h.loadS (h.storeS (cs' := [strV (readX p.1).1.1, ve]) fun W h => h.loadS ?_)
    exact k ve W ove h.to
theorem cellsBy : ∀ bs : Txt, (bs.map byteV).flatMap (fun v => v.cells.toList) = bs.map byteV
  | [] => rfl
  | c :: bs => by rw [List.map_cons, List.flatMap_cons, cellsBy bs]; rfl
theorem litBy {t e : TypeId} {bytes n : Nat} {z : Value} {ps : List (Nat × Value)} {KW : Value → World → Prop} [S : SlT Tryz.prog t e 1 bytes z] (bs : Txt) (h : St w0 G l W) (hp : ps = numbered 0 (bs.map byteV)) (hn : bs.length = n) (k : ∀ v W', Cel1 v → St w0 G (Ky v (Ow e 1 n (bs.map byteV)) :: l) W' → KW v W') (hm : n * 1 ≤ 16777216 := by decide) : RunV Tryz.prog (Instr.buildSlice t n ps.toArray) W KW := by
  haveI : Prt ps 0 (bs.map byteV) := ⟨hp⟩
  haveI : Len (bs.map byteV) n := ⟨by rw [List.length_map, hn]⟩
  haveI : CellsL 1 (bs.map byteV) (bs.map byteV) := ⟨fun v hv => by
    obtain ⟨c, _, rfl⟩ := List.mem_map.1 hv
    rfl, cellsBy bs⟩
  exact h.lit k hm
def fFirst : Txt := [60, 114, 115, 115, 62, 60, 99, 104, 97, 110, 110, 101, 108, 62, 60, 116, 105, 116, 108, 101, 62, 84, 60, 47, 116, 105, 116, 108, 101, 62, 60, 105, 116, 101, 109, 62, 60, 108, 105, 110, 107, 62, 117, 60, 47, 108, 105, 110, 107, 62, 60, 47, 105, 116, 101, 109, 62, 60, 47, 99, 104, 97, 110, 110, 101, 108, 62, 60, 47, 114, 115, 115, 62]
theorem ffirst_x : feedX (tokX fFirst) = (([84], [⟨0, [117], [], [117], 0⟩]), 0) := by decide +kernel
theorem x_en {f off : Nat} {ty : TypeId} {z u : Value} {L : List Ent} {e : Ent} {i : Nat} {K : Value → Prop} {k0 : IntKind} [F : Fld Tryz.prog 34 f off] [T : Ty1 Tryz.prog ty z] (hs : Ens W v L) (hi : L[i]? = some e) (ho : off < 5) (hu : (entC e)[off]? = some u) (k : K u) :
    RunA Tryz.prog (Instr.indexAt 25 v (.int k0 (i : Int))) fun p => RunA Tryz.prog (Instr.fieldAt 34 p f) fun q => RunW Tryz.prog (Instr.loadAt ty q) W K :=
  x_fld hs (List.getElem?_eq_some_iff.1 hi).1 ho (by rw [rc_get entC_len hi ho]; exact hu) k
theorem ffirst_spec (hT : XTabs w0) (h : St w0 G0 l W) (k : ∀ W', St w0 G0 l W' → RR (.bool true) W') : CallF Tryz.prog 8 #[] W RR := by
  refine sh8_calls ?_
  unfold sh8
  refine litBy fFirst h (by kernel_rfl) (by decide) fun u1 W o1 h => ?_
  refine h.markB (v := u1) (by decide) fun W h => ?_
  have hT1 := xtabs_at hT h
  refine fparse_spec hT1 (s := fFirst) (h.rsl (v := u1)) (St.start W) fun ve W ove h' => a_ext0 (a_ext1 ?_)
  replace h := h.frame1 h'
  rw [ffirst_x] at h ⊢
  refine h.allocS fun t1 W h => ?_
  refine h.storeS (cs' := [strV [84], ve]) fun W h => ?_
  have hE : Ens W ve [⟨0, [117], [], [117], 0⟩] := h.osl (v := ve)
  refine w_eql (ifd_pos rfl ?_)
  refine a_fld0 (h.load (w_eqlL (ifd_pos rfl ?_)))
  refine a_fld0 (h.load (x_lenS hE (w_eql (ifd_pos rfl ?_))))
  refine a_fld0 (h.load (x_en (i := 0) (u := strV [117]) hE rfl (by decide) rfl (w_eqlL (ifd_pos rfl ?_))))
  refine a_fld0 (h.load (x_en (i := 0) (u := strV [117]) hE rfl (by decide) rfl (w_eqlL (ifd_pos rfl ?_))))
  refine a_fld0 (h.load (x_en (i := 0) (u := .int .i64 0) hE rfl (by decide) rfl (w_eql ?_)))
  exact k W h.to
end
end Go.Proofs.YtlflpbflpcmckaaGreatDoor
namespace Go.Ez
open Go Go.Proofs
def BlS (s : Txt) : Prop := ∀ c ∈ s, XRd.isBl c = true
theorem dw_all {p : UInt8 → Bool} : ∀ {s : Txt}, (∀ c ∈ s, p c = true) → s.dropWhile p = []
  | [], _ => rfl
  | c :: s, h => by rw [List.dropWhile_cons_of_pos (h c (List.mem_cons_self ..))]; exact dw_all fun d hd => h d (List.mem_cons_of_mem _ hd)
theorem dw_app {p : UInt8 → Bool} (a b : Txt) : (a ++ b).dropWhile p = if a.dropWhile p = [] then b.dropWhile p else a.dropWhile p ++ b := by
  induction a with
  | nil => rw [List.nil_append, List.dropWhile_nil, if_pos rfl]
  | cons c a ih =>
    rw [List.cons_append, List.dropWhile_cons, List.dropWhile_cons]
    split
    · exact ih
    · rw [if_neg (by simp)]; rfl
theorem dw_split {p : UInt8 → Bool} : ∀ s : Txt, ∃ a, s = a ++ s.dropWhile p ∧ ∀ c ∈ a, p c = true
  | [] => ⟨[], rfl, by simp⟩
  | c :: s => by
    rw [List.dropWhile_cons]
    split
    · rename_i h
      obtain ⟨a, e, ha⟩ := dw_split (p := p) s
      exact ⟨c :: a, by rw [List.cons_append, ← e], fun d hd => by
        rcases List.mem_cons.1 hd with rfl | hd
        · exact h
        · exact ha d hd⟩
    · exact ⟨[], rfl, by simp⟩
theorem dw_head {p : UInt8 → Bool} : ∀ {s : Txt} {c : UInt8} {r : Txt}, s.dropWhile p = c :: r → p c = false
  | [], _, _, h => by cases h
  | d :: s, c, r, h => by
    rw [List.dropWhile_cons] at h
    split at h
    · exact dw_head h
    · rename_i hd
      cases h
      simpa using hd
theorem rtr_split (s : Txt) : ∃ b, s = rtr s ++ b ∧ BlS b := by
  obtain ⟨a, e, ha⟩ := dw_split (p := XRd.isBl) s.reverse
  refine ⟨a.reverse, ?_, fun c hc => ha c (by simpa using hc)⟩
  unfold rtr
  rw [← List.reverse_append, ← e, List.reverse_reverse]
theorem rtr_app_bl {s b : Txt} (hb : BlS b) : rtr (s ++ b) = rtr s := by
  unfold rtr
  rw [List.reverse_append, dw_app, if_pos (dw_all fun c hc => hb c (by simpa using hc))]
theorem rtr_bl_app {a s : Txt} (ha : BlS a) : rtr (a ++ s) = if rtr s = [] then [] else a ++ rtr s := by
  unfold rtr
  rw [List.reverse_append, dw_app]
  by_cases h : s.reverse.dropWhile XRd.isBl = []
  · rw [if_pos h, h, List.reverse_nil, if_pos rfl, dw_all fun c hc => ha c (by simpa using hc)]; rfl
  · rw [if_neg h, if_neg (by simpa using h)]; simp
theorem trimX_around {a s b : Txt} (ha : BlS a) (hb : BlS b) : trimX (a ++ s ++ b) = trimX s := by
  unfold trimX
  rw [rtr_app_bl hb, rtr_bl_app ha]
  split
  · rename_i h; rw [h]
  · rw [dw_app, if_pos (dw_all ha)]
theorem trimX_split (s : Txt) : ∃ b, s.dropWhile XRd.isBl = trimX s ++ b ∧ BlS b := by
  obtain ⟨b, e, hb⟩ := rtr_split s
  by_cases h : (rtr s).dropWhile XRd.isBl = []
  · refine ⟨[], ?_, by intro c hc; cases hc⟩
    unfold trimX
    rw [h, List.append_nil]
    conv => lhs; rw [e]
    rw [dw_app, if_pos h, dw_all hb]
  · refine ⟨b, ?_, hb⟩
    unfold trimX
    conv => lhs; rw [e]
    rw [dw_app, if_neg h]
theorem trimX_idem (s : Txt) : trimX (trimX s) = trimX s := by
  have h1 : rtr (trimX s) = trimX s := by
    obtain ⟨a, e, ha⟩ := dw_split (p := XRd.isBl) (rtr s)
    have h2 : rtr (rtr s) = rtr s := by
      unfold rtr
      rw [List.reverse_reverse]
      congr 1
      generalize hx : s.reverse.dropWhile XRd.isBl = x
      cases x with
      | nil => rfl
      | cons c r => rw [List.dropWhile_cons_of_neg (by rw [dw_head hx]; decide)]
    have h3 : rtr s = a ++ trimX s := e
    by_cases ht : trimX s = []
    · rw [ht]; rfl
    · have h4 := h2
      rw [h3, rtr_bl_app ha] at h4
      split at h4
      · have := congrArg List.length h4
        rw [List.length_nil, List.length_append] at this
        exact absurd (List.eq_nil_of_length_eq_zero (by omega)) ht
      · exact List.append_cancel_left h4
  unfold trimX at h1 ⊢
  rw [h1]
  generalize hx : (rtr s).dropWhile XRd.isBl = x
  cases x with
  | nil => rfl
  | cons c r => rw [List.dropWhile_cons_of_neg (by rw [dw_head hx]; decide)]
end Go.Ez
namespace Go.Proofs.YtlflpbflpcmckaaGreatDoor
open Go Go.Ez Go.RowKit Go.Lib
set_option linter.unusedSimpArgs false
set_option linter.unusedVariables false
section
variable {w0 W W' : World} {G : Nat → Prop} {l R R1 R2 : List As} {RR : Value → World → Prop} {s : Txt} {v ve f : Value}
theorem bl4 (c : UInt8) : XRd.isBl c = true ↔ c = 32 ∨ c = 9 ∨ c = 10 ∨ c = 13 := by
  unfold XRd.isBl
  simp [or_assoc]
theorem x_nB {t : TypeId} {X Y : Operand} {a : UInt8} {b : Nat} {K : Value → Prop} (hb : b < 256) (h : K (.bool (decide (a ≠ UInt8.ofNat b)))) : RunW Tryz.prog (bin .neq t X Y (byteV a) (.int .u8 (b : Int))) W K :=
  w_neq (by
    have h8 := a.toNat_lt
    have : decide (((a.toNat : Nat) : Int) ≠ (b : Int)) = decide (a ≠ UInt8.ofNat b) := by
      rw [Bool.eq_iff_iff, decide_eq_true_iff, decide_eq_true_iff]
      refine not_congr ⟨fun h => ?_, fun h => ?_⟩
      · rw [← UInt8.toNat_inj, UInt8.toNat_ofNat']; omega
      · rw [h, UInt8.toNat_ofNat']; omega
    rw [this]; exact h)
theorem x_eB {t : TypeId} {X Y : Operand} {a : UInt8} {b : Nat} {K : Value → Prop} (hb : b < 256) (h : K (.bool (decide (a = UInt8.ofNat b)))) : RunW Tryz.prog (bin .eql t X Y (byteV a) (.int .u8 (b : Int))) W K :=
  w_eql (by
    have h8 := a.toNat_lt
    have : decide (((a.toNat : Nat) : Int) = (b : Int)) = decide (a = UInt8.ofNat b) := by
      rw [Bool.eq_iff_iff, decide_eq_true_iff, decide_eq_true_iff]
      refine ⟨fun h => ?_, fun h => ?_⟩
      · rw [← UInt8.toNat_inj, UInt8.toNat_ofNat']; omega
      · rw [h, UInt8.toNat_ofNat']; omega
    rw [this]; exact h)
theorem ftrims_law (hT : XTabs w0) (h : St w0 G0 [] W) (k : ∀ W', St w0 G0 [] W' → RR (.bool true) W') : CallF Tryz.prog 4 #[strV s] W RR := by
  refine sh4_calls ?_
  unfold sh4
  refine ffirst_spec hT h fun W h => a_not (iff' ?_)
  refine x_len (a_gtr (ifd (fun hc => ffirst_spec hT h fun W h => k W h) fun hc => ?_))
  refine ftrim_spec h (by omega) fun W h => ?_
  obtain ⟨b, hb, hbl⟩ := trimX_split s
  obtain ⟨a, ha, hal⟩ := dw_split (p := XRd.isBl) s
  rw [hb] at ha
  have hlen : s.length = a.length + ((trimX s).length + b.length) := by
    have := congrArg List.length ha
    rwa [List.length_append, List.length_append] at this
  have hd : s.drop a.length = trimX s ++ b := by
    conv => lhs; rw [ha]
    rw [List.drop_left]
  have hhd : ∀ c, s[a.length]? = some c → trimX s = [] → b = [] → False := fun c hc h1 h2 => by
    have := (List.getElem?_eq_some_iff.1 hc).1
    rw [hlen, h1, h2] at this
    simp at this
  -- where the blanks end
  have hstop : ∀ c, s[a.length]? = some c → XRd.isBl c = false := fun c hc => by
    have h1 : (s.dropWhile XRd.isBl)[0]? = some c := by
      rw [hb, ← hd, List.getElem?_drop]; exact hc
    cases hx : s.dropWhile XRd.isBl with
    | nil => rw [hx] at h1; cases h1
    | cons d r =>
      rw [hx] at h1
      cases h1
      exact dw_head hx
  have hpre : ∀ i c, i < a.length → s[i]? = some c → XRd.isBl c = true := fun i c hi hc => by
    rw [ha, List.getElem?_append_left hi] at hc
    exact hal c (List.mem_of_getElem? hc)
  have hpost : ∀ i c, a.length + (trimX s).length ≤ i → s[i]? = some c → XRd.isBl c = true := fun i c hi hc => by
    rw [ha, List.getElem?_append_right (by omega), List.getElem?_append_right (by omega)] at hc
    exact hbl c (List.mem_of_getElem? hc)
  have hidem := trimX_idem s
  have haround : trimX ([32, 9] ++ s ++ [13, 10]) = trimX s := trimX_around (by unfold BlS; decide) (by unfold BlS; decide)
  generalize trimX s = t at *
  refine jni (fun vs W' => vs = [strV s, strV t, nV .i64 a.length] ∧ W' = W) ?_ ?_
  · rintro vs W _ ⟨rfl, rfl⟩
    refine app3 ?_
    refine x_len (x_len (a_sub64 (by omega) (by omega) (a_gtr (ifd_neg (by omega) ?_))))
    refine x_len (a_add64 (by omega) (by omega) ?_)
    rw [show ((a.length : Int) + (t.length : Int)) = ((a.length + t.length : Nat) : Int) by push_cast; rfl]
    refine x_cut (by omega) (by omega) (w_neqL (ifd_neg ?_ ?_))
    · rw [hd, show a.length + t.length - a.length = t.length by omega, List.take_left]
      exact fun h => h rfl
    refine ftrim_spec h (by omega) fun W h => ?_
    rw [hidem]
    refine w_neqL (ifd_neg (fun h => h rfl) ?_)
    refine x_len (a_add64 (by omega) (by omega) ?_)
    rw [show ((a.length : Int) + (t.length : Int)) = ((a.length + t.length : Nat) : Int) by push_cast; rfl]
    refine lpx (α := Nat) (fun i => [nV .i64 i]) (fun i W' => a.length + t.length ≤ i ∧ W' = W) (fun i => s.length - i) (a.length + t.length) (fun _ => rfl) rfl ⟨Nat.le_refl _, rfl⟩ ?_
    rintro next i W1 hnext ⟨q1, rfl⟩
    refine app1 ?_
    refine x_len (a_lss (ifd (fun hc1 => ?_) fun hc1 => ?_))
    · have hi : i < s.length := by omega
      have ga : s[i]? = some s[i] := List.getElem?_eq_getElem hi
      have hbl1 := hpost i _ q1 ga
      generalize s[i] = c at ga hbl1
      refine jni (fun vs W' => vs = [strV s, strV t, nV .i64 i] ∧ W' = W1) ?_ ?_
      · rintro vs W _ ⟨rfl, rfl⟩
        refine app3 (a_add64 (by omega) (by omega) ⟨rfl, rfl, ?_⟩)
        rw [show ((i : Int) + 1) = ((i + 1 : Nat) : Int) by push_cast; rfl]
        exact hnext (i + 1) _ (by omega) ⟨by omega, rfl⟩
      refine x_index ga (x_nB (b := 32) (by decide) (ifd (fun h1 => ?_) fun h1 => ⟨rfl, rfl⟩))
      refine x_index ga (x_nB (b := 9) (by decide) (ifd (fun h2 => ?_) fun h1 => ⟨rfl, rfl⟩))
      refine x_index ga (x_nB (b := 10) (by decide) (ifd (fun h3 => ?_) fun h1 => ⟨rfl, rfl⟩))
      refine x_index ga (x_nB (b := 13) (by decide) (ifd (fun h4 => ?_) fun h1 => ⟨rfl, rfl⟩))
      rcases (bl4 c).1 hbl1 with e | e | e | e
      · exact absurd e h1
      · exact absurd e h2
      · exact absurd e h3
      · exact absurd e h4
    · refine ffirst_spec hT h fun W h => ift ?_
      refine a_cat (l := [32, 9]) (m := s) (by show 2 + _ ≤ _; omega) (a_cat (m := [13, 10]) (by rw [List.length_append]; show 2 + _ + 2 ≤ _; omega) ?_)
      refine ftrim_spec h (by rw [List.length_append, List.length_append]; show 2 + _ + 2 ≤ _; omega) fun W h => ?_
      rw [haround]
      refine w_eqlL ?_
      rw [decide_eq_true rfl]
      exact k W h
  · refine lpx (α := Nat) (fun i => [nV .i64 i]) (fun i W' => i ≤ a.length ∧ W' = W) (fun i => s.length - i) 0 (fun _ => rfl) rfl ⟨Nat.zero_le _, rfl⟩ ?_
    rintro next i W1 hnext ⟨q1, rfl⟩
    refine app1 ?_
    refine jni (fun vs W' => vs = [strV s, strV t, nV .i64 i] ∧ i < a.length ∧ W' = W1) ?_ ?_
    · rintro vs W _ ⟨rfl, hi, rfl⟩
      refine app3 (a_add64 (by omega) (by omega) ⟨rfl, rfl, ?_⟩)
      rw [show ((i : Int) + 1) = ((i + 1 : Nat) : Int) by push_cast; rfl]
      exact hnext (i + 1) _ (by omega) ⟨by omega, rfl⟩
    refine x_len (a_lss (ifd (fun hc1 => ?_) fun hc1 => ?_))
    · have hi : i < s.length := by omega
      have ga : s[i]? = some s[i] := List.getElem?_eq_getElem hi
      generalize s[i] = c at ga
      have go : XRd.isBl c = true → i < a.length := fun hb => by
        refine Classical.byContradiction fun hn => ?_
        obtain rfl : i = a.length := by omega
        rw [hstop c ga] at hb
        cases hb
      refine x_index ga (x_eB (b := 32) (by decide) (ifd (fun h1 => ⟨rfl, go ((bl4 c).2 (.inl h1)), rfl⟩) fun h1 => ?_))
      refine x_index ga (x_eB (b := 9) (by decide) (ifd (fun h2 => ⟨rfl, go ((bl4 c).2 (.inr (.inl h2))), rfl⟩) fun h2 => ?_))
      refine x_index ga (x_eB (b := 10) (by decide) (ifd (fun h3 => ⟨rfl, go ((bl4 c).2 (.inr (.inr (.inl h3)))), rfl⟩) fun h3 => ?_))
      refine x_index ga (x_eB (b := 13) (by decide) (ifd (fun h4 => ⟨rfl, go ((bl4 c).2 (.inr (.inr (.inr h4)))), rfl⟩) fun h4 => ?_))
      have hi2 : i = a.length := by
        refine Classical.byContradiction fun hn => ?_
        rcases (bl4 c).1 (hpre i c (by omega) ga) with e | e | e | e
        · exact h1 e
        · exact h2 e
        · exact h3 e
        · exact h4 e
      rw [hi2]
      exact ⟨rfl, rfl⟩
    · have hi2 : i = a.length := by omega
      rw [hi2]
      exact ⟨rfl, rfl⟩
end
end Go.Proofs.YtlflpbflpcmckaaGreatDoor
namespace Go.Proofs.YtlflpbflpcmckaaGreatDoor
open Go Go.Ez Go.RowKit Go.ChangeShapes Go.WideShapes Go.ChangeAt
set_option linter.unusedVariables false
theorem feedTrims_knob : ownKnob Tryz.prog.godebug = none := by kernel_rfl
theorem feedTrims_laid : laidOutB Tryz.prog = true := by kernel_rfl
set_option maxRecDepth 100000 in
theorem feedTrims_lifted (os : Os) (started : os.Started) (H : Type) (enc : TypeId × Value → H) :
    ReturnsInHanded Rows.feedTrimsRow.assume Tryz.checked os 4 .any (fun w args => (Rows.feedTrimsSpec.pre enc Tryz.prog Tryz.f4 Rows.feedTrimsRow.domain false w args ∧ laidMetH Tryz.prog Rows.feedTrimsRow.laid w) ∧ sizedMet enc Tryz.prog Tryz.f4 (OpenSpec.ofChange Rows.feedTrimsSpec) false w args)
      (Rows.feedTrimsSpec.post enc Tryz.prog Tryz.f4 false true false false) := by
  refine returnsInHanded_of_change_and (C := Tryz.checked) (X := fun w _ => laidMetH Tryz.prog Rows.feedTrimsRow.laid w) (fun _ _ _ hh h => h.of_heap hh) feedTrims_knob started (by kernel_rfl) Tryz.func4
    (ChangeSpec.witness_shaped (enc := enc) (C := Tryz.checked) (os := os) (X := fun w _ => laidMetH Tryz.prog Rows.feedTrimsRow.laid w) false (World.laidAll Tryz.prog os Rows.feedTrimsRow.laid) #[.string ⟨#[]⟩] 8 (World.laidAll_os _ _ _)
      (World.shaped_of_ZipB (by kernel_rfl) (by kernel_rfl)) (by kernel_rfl) (by kernel_rfl) (by kernel_rfl)
      (by rw [MakeChecks.laidMetH_plain _ _ _ (by kernel_rfl)]; exact laidMet_laidAll _ (by kernel_rfl) (by kernel_rfl))) ?_
  intro W base args ds gs before hval0 hW hcnd _ hL _
  have hval : ∀ (j : Nat) t v, Tryz.f4.params[j]? = some t → args[j]? = some v → Value.okWide Tryz.prog W .any base t v := hval0
  have hW' := hW
  obtain ⟨p, q, hA0, hV, rfl, hfz, hnd⟩ := hW
  have hA : DataW.TrodAll enc Tryz.prog W 0 (fun _ => true) true Tryz.f4.params.toList args.toList ds p := hA0
  rw [Tryz.params4] at hA hval
  obtain ⟨v0, vs0, d0, ds0, p0, q0, e0, rfl, rfl, h0, hA1⟩ := trodAll_cons hA
  obtain ⟨rfl, rfl, rfl⟩ := trodAll_nil hA1
  obtain ⟨rfl, rfl⟩ := trodVars_none hV
  have eargs : args = #[v0] := by rw [← Array.toArray_toList (xs := args), e0]
  subst eargs
  obtain ⟨s0, rfl⟩ := okWide_string Tryz.underlying9 (hval 0 9 v0 rfl rfl)
  obtain ⟨l0, rfl⟩ : ∃ l : List UInt8, s0 = ⟨l.toArray⟩ := ⟨_, strL_of s0⟩
  rw [MakeChecks.laidMetH_plain _ _ _ (by kernel_rfl)] at hL
  have hT : XTabs W := xtabs_of (Pinned.utf8First_eq ▸ Lib.laidMet.reads hL (.tail _ (.tail _ (.tail _ (.tail _ (.tail _ (.tail _ (.head _))))))))
    (show Go.Lib.VarReads Tryz.prog W "unicode/utf8.acceptRanges" Go.Lib.acceptData from (show Rows.laid_unicode_utf8_acceptRanges = Go.Lib.acceptData by kernel_rfl) ▸ Lib.laidMet.reads hL (.tail _ (.tail _ (.tail _ (.head _)))))
    (Lib.laidMet.reads hL (.tail _ (.tail _ (.tail _ (.tail _ (.tail _ (.head _)))))))
  refine Calls.mono (ftrims_law (s := l0) (RR := fun v W' => v = .bool true ∧ Below W.heap.size W W') hT (St.start W) fun w' hw => ⟨rfl, hw.low⟩) ?_
  rintro e W' ⟨v, rfl, rfl, hb⟩
  exact ⟨_, rfl, post_true (tb := 4) hW' feedTrims_laid (by kernel_rfl) rfl (by kernel_rfl) Tryz.underlying4 rfl hb⟩
theorem feedTrims_row : Rows.FeedTrimsSaid :=
  OpenClaim.holds_of_wide 4 Tryz.f4 rfl rfl rfl rfl rfl rfl rfl ⟨rfl, rfl, rfl, rfl, rfl⟩ rfl rfl rfl rfl rfl (by kernel_rfl) Tryz.func4 (by kernel_rfl)
    (of_decide_eq_true (by kernel_rfl)) (by unfold Func.isWrapper; first | (rw [if_pos (by decide +kernel)]; kernel_rfl) | (rw [if_neg (by decide +kernel)]; exact ⟨rfl, rfl⟩))
    (fun os started H enc _ => feedTrims_lifted os started H enc)
theorem feedTrims_holds : Rows.FeedTrimsCardSaid :=
  Claim7.holds_tied_plain_at .later [] [.data, .data, .data, .data, .sentinel, .sentinel, .pinned] true (true, "a7c4451474bbb9e6120b77622541ae8d095c43a4b0b8eaebebfdce3d7e4c15f9") true feedTrims_row (fun _ h => by cases h) (by kernel_rfl) (fun _ h => by cases h) feedTrims_row_tie rfl ⟨rfl, rfl⟩ (by kernel_rfl) rfl
    (fun f fn hf hfn => by
      obtain rfl : f = 4 := Option.some.inj ((show Tryz.prog.funcNamed "handbill/hbllaw7.FeedTrims" = some 4 by kernel_rfl).symm.trans hf) |>.symm
      obtain rfl : fn = Tryz.f4 := (Option.some.inj (Tryz.func4.symm.trans hfn)).symm
      exact ⟨by kernel_rfl, fun j t ht => by
        rw [Tryz.params4] at ht
        have hm : t ∈ [9] := by
          have := Array.mem_of_getElem? ht
          simpa using this
        have hall : ([9].all fun u => !Tryz.prog.wantsStandIn u) = true := by kernel_rfl
        exact (show Tryz.prog.wantsStandIn t = false by simpa using List.all_eq_true.1 hall t hm)⟩)
    (by kernel_rfl)
#print axioms feedTrims_holds
end Go.Proofs.YtlflpbflpcmckaaGreatDoor
