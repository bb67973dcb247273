/-
  VERSIONS (of texts): a store's rows told, what is to be seen told; pairs taken, held against one another; the law's operations: what each function answers.
-/
import Derived.Test.YtffnabbchghokaaVerF
import Derived.Test.YtffnabbchghokaaEzFm
import Derived.Test.YtffnabbchghokaaOmRgvs
namespace Go.Ez
open Go
theorem filterMap_ext {α β : Type} {f g : α → Option β} : ∀ {l : List α}, (∀ x ∈ l, f x = g x) → l.filterMap f = l.filterMap g
  | [], _ => rfl
  | x :: l, h => by
    have ih := filterMap_ext (l := l) fun y hy => h y (List.mem_cons_of_mem _ hy)
    rw [List.filterMap_cons, List.filterMap_cons, h x List.mem_cons_self, ih]
theorem filterMap_if {α β : Type} {c : α → Bool} {g : α → β} : ∀ {l : List α}, l.filterMap (fun x => if c x then some (g x) else none) = (l.filter c).map g
  | [] => rfl
  | x :: l => by
    have ih := filterMap_if (c := c) (g := g) (l := l)
    rw [List.filterMap_cons, ih]
    cases h : c x
    · rw [List.filter_cons_of_neg (by simp [h])]; rfl
    · rw [List.filter_cons_of_pos h]; rfl
theorem filterMap_filter {α β : Type} {c : α → Bool} {g : α → Option β} : ∀ {l : List α}, (l.filter c).filterMap g = l.filterMap fun x => if c x then g x else none
  | [] => rfl
  | x :: l => by
    have ih := filterMap_filter (c := c) (g := g) (l := l)
    cases h : c x
    · rw [List.filter_cons_of_neg (by simp [h]), List.filterMap_cons, ih]; simp [h]
    · rw [List.filter_cons_of_pos h, List.filterMap_cons, List.filterMap_cons, ih]; simp [h]
end Go.Ez
namespace Go.Proofs.Ytffnabbchghokaa
open Go Go.Ez Go.RowKit
set_option linter.unusedSimpArgs false
set_option linter.unusedVariables false

/-- pairs as they are told -/
abbrev tellP (m : List (Txt × Txt)) : List (List Value) := m.map fun p => [strV p.1, strV p.2]
/-- a key not below lo -/
def geF (lo : Txt) (x : List Value) : Option (List Value) := match x with
  | .string s :: _ => if Op.bytesLess s.toList lo then none else some x
  | _ => none
/-- a key's value at a time -/
def scF (rows : VRows Txt) (t : Int) (x : List Value) : Option (List Value) := match x with
  | .string s :: _ => (toldC (chainR rows s.toList) t).map fun v => [.string s, strV v]
  | _ => none
theorem geF_at {lo k : Txt} {v : Value} : geF lo [strV k, v] = if OKey.lt k lo then none else some [strV k, v] := by
  show (if Op.bytesLess (⟨k.toArray⟩ : ByteArray).toList lo then none else some [strV k, v]) = _
  rw [ByteArray.toList_mk]
  rfl
theorem scF_at {rows : VRows Txt} {t : Int} {k : Txt} {v : Value} : scF rows t [strV k, v] = (toldC (chainR rows k) t).map fun x => [strV k, strV x] := by
  show (toldC (chainR rows (⟨k.toArray⟩ : ByteArray).toList) t).map _ = _
  rw [ByteArray.toList_mk]
theorem ge_tells {lo : Txt} {rs : Rsvs} : (tellvs (mpvs rs)).filterMap (geF lo) = tellvs (mpvs (rs.filter fun r => inR lo [] r.1)) := by
  have e : ∀ r : Txt × OneV × List (Ver Txt), geF lo [strV r.1, r.2.1.v] = if inR lo [] r.1 then some [strV r.1, r.2.1.v] else none := fun r => by
    rw [geF_at]
    unfold inR
    cases OKey.lt r.1 lo <;> rfl
  show ((rs.map fun p => (p.1, p.2.1)).map fun p => [strV p.1, p.2.v]).filterMap (geF lo) = ((rs.filter fun r => inR lo [] r.1).map fun p => (p.1, p.2.1)).map fun p => [strV p.1, p.2.v]
  rw [List.map_map, List.map_map, List.filterMap_map, ← filterMap_if]
  exact filterMap_ext fun r _ => e r
theorem rg_tells {lo hi : Txt} (h : hi ≠ []) {rs : Rsvs} : partMvs lo hi (mpvs rs) = mpvs (rs.filter fun r => inR lo hi r.1) := by
  unfold partMvs mpvs mapV
  rw [List.filter_map]
  congr 1
  refine List.filter_congr fun r _ => ?_
  unfold inR
  cases hi with
  | nil => exact absurd rfl h
  | cons a b => rfl
theorem sc_tells {lo hi : Txt} {t : Int} {rs : Rsvs} (hs : Srt rs) : (tellvs (mpvs (rs.filter fun r => inR lo hi r.1))).filterMap (scF (rwvs rs) t) = tellP (scanR (rwvs rs) lo hi t) := by
  show (((rs.filter fun r => inR lo hi r.1).map fun p => (p.1, p.2.1)).map fun p => [strV p.1, p.2.v]).filterMap (scF (rwvs rs) t) = ((rs.map fun p => (p.1, p.2.2)).filterMap _).map _
  rw [List.map_map, List.filterMap_map, List.filterMap_map, List.map_filterMap, filterMap_filter]
  refine filterMap_ext fun r hr => ?_
  have hc : chainR (rwvs rs) r.1 = r.2.2 := by
    unfold chainR
    have : getK r.1 (rwvs rs) = some r.2.2 := (mem_iff_get ((mapV_srt _).2 hs)).1 (List.mem_map.2 ⟨r, hr, rfl⟩)
    rw [this]; rfl
  show (if inR lo hi r.1 = true then scF (rwvs rs) t [strV r.1, r.2.1.v] else none) = Option.map _ (if inR lo hi r.1 = true then (toldC r.2.2 t).map fun x => (r.1, x) else none)
  rw [scF_at, hc]
  split
  · rw [Option.map_map]; rfl
  · rfl

section
variable {w0 W W' : World} {G : Nat → Prop} {l R R1 : List As} {rs : Rsvs} {low : Int} {v : Value} {RR : Value → World → Prop}

/-- what within stands on -/
def ItW (b bl : Nat) (v : Value) (lo : Txt) (_ : Value) : As := As.all True [Ky b (Ob (.cells [v].toArray 35 (0, 0))), Ky bl (Ob (.cells [strV lo].toArray 9 (0, 0)))]

theorem within1_itrZ {b bl : Nat} {lo : Txt} (hz : VsZvs rs low w0 v) (hl : rs.length ≤ 1000000) : Itr Try.prog w0 G0 (.func (.func 109) #[] #[.pointer (some ⟨b, 0, none⟩), .pointer (some ⟨bl, 0, none⟩)]) (tellvs (mpvs (rs.filter fun r => inR lo [] r.1))) (ItW b bl v lo) := by
  refine ⟨109, _, rfl, by first | exact hent _ (by kernel_rfl) | exact hentD _ (by kernel_rfl), fun yv C D I W RR oy hY h hd hs => ?_⟩
  show CallF Try.prog 109 #[yv, .pointer (some ⟨b, 0, none⟩), .pointer (some ⟨bl, 0, none⟩)] W RR
  refine sh109_calls ?_
  unfold sh109
  replace h := (St.open2 h.swap).2
  obtain ⟨bs, mv, rfl, hr, hm, hc⟩ := hz
  refine h.boxV fun bx W h => ?_
  refine h.load ?_
  refine a_nil (a_fld0 (w_ldR (hr.below h.low) rfl ?_))
  refine allvs_specZ hm h (by rw [mpLenvs]; exact hl) fun f ba W hI h => ?_
  rw [← ge_tells] at hY hd hs
  have hlen : ∀ x ∈ tellvs (mpvs rs), x.length = 2 := by
    intro x hx
    obtain ⟨p, _, rfl⟩ := List.mem_map.1 hx
    rfl
  refine rngFm (geF lo) [Ky bx (Ob (.cells [yv].toArray 122 (0, 0))), Ky bl (Ob (.cells [strV lo].toArray 9 (0, 0)))] hI hY hlen (l := Ky b (Ob (.cells [(.pointer (some ⟨bs, 0, none⟩) : Value)].toArray 35 (0, 0))) :: I) ?_ ?_ ?_ ?_
  · simp only [List.cons_append, List.nil_append]
    exact h.to
  · intro i x hxi ll rec I' W kn ks h hno hyes
    obtain ⟨r, hri, rfl⟩ := mpAtvs hxi
    simp only [List.cons_append, List.nil_append] at h hno hyes
    rw [geF_at] at hno hyes
    refine app2 ?_
    refine ⟨h.ob (b := ll), ?_⟩
    replace h := h.putO (b := ll) (o := .loop (rec .ready none)) (.loop (rec .busy none))
    refine app4 ?_
    refine jni (fun vs W' => kn W') (fun _ _ _ h => h) ?_
    refine h.load ?_
    refine x_geqL (ifnb (fun hc => ?_) fun hc => ?_)
    · rw [show OKey.lt r.1 lo = false from hc] at hyes
      refine h.load ?_
      refine hyes _ rfl _ _ h.to (fun W'' hk => ?_) fun W'' hk => ?_
      · exact a_not (iff' hk)
      · exact a_not (ift hk)
    · rw [show OKey.lt r.1 lo = true from hc] at hno
      exact hno rfl _ h.to
  · intro DD W h
    simp only [List.cons_append, List.nil_append] at h
    refine ⟨h.ob (b := DD), hd _ ?_⟩
    replace h := h.putO (b := DD) (o := .deferred (some [])) (.deferred none)
    refine St.swap (St.shut2 (φ := True) trivial ?_)
    exact h.to
  · intro DD j W hj h
    simp only [List.cons_append, List.nil_append] at h
    refine ⟨h.ob (b := DD), hs j _ hj ?_⟩
    replace h := h.putO (b := DD) (o := .deferred (some [])) (.deferred none)
    refine St.swap (St.shut2 (φ := True) trivial ?_)
    exact h.to

theorem within_specZ {lo hi : Txt} (hz : VsZvs rs low w0 v) (hl : rs.length ≤ 1000000) (h : St w0 G0 l W) (k : ∀ f A W', Itr Try.prog w0 G0 f (tellvs (mpvs (rs.filter fun r => inR lo hi r.1))) A → Cel1 f → St w0 G0 (Ky f A :: l) W' → RR f W') : CallF Try.prog 77 #[v, strV lo, strV hi] W RR := by
  refine sh77_calls ?_
  unfold sh77
  have hz0 := hz
  obtain ⟨bs, mv, rfl, hr, hm, hc⟩ := hz
  refine h.boxV fun b W h => ?_
  refine h.boxV fun bl W h => ?_
  refine w_neqL (ifd (fun hne => ?_) fun hne => ?_)
  · replace h := h.drew
    refine ⟨St w0 G0 _, h, ?_⟩
    refine ss_load ?_
    refine a_nil (a_fld0 ?_)
    refine s_ld (t := 114) (cs := [mv, .int .i64 low]) (fun w hw => hr.below hw.low) rfl ?_
    refine ss_load ?_
    refine rangevs_specZ (lo := lo) (hi := hi) hm h (by rw [mpLenvs]; exact hl) fun f ba b1 b2 W hI h => ?_
    rw [rg_tells hne] at hI
    have of : Cel1 f := by obtain ⟨_, _, rfl, _⟩ := id hI; exact ⟨rfl⟩
    exact k f _ W hI of h.to
  · have hhi : hi = [] := Classical.not_not.1 hne
    subst hhi
    refine v_func ?_
    exact k _ _ W (within1_itrZ (b := b) (bl := bl) hz0 hl) ⟨rfl⟩ (St.shut2 (φ := True) trivial h.to)

/-- what Scan stands on -/
def ItS (b bl bh bt : Nat) (v : Value) (lo hi : Txt) (t : Int) (_ : Value) : As := As.all True [Ky b (Ob (.cells [v].toArray 35 (0, 0))), Ky bl (Ob (.cells [strV lo].toArray 9 (0, 0))), Ky bh (Ob (.cells [strV hi].toArray 9 (0, 0))), Ky bt (Ob (.cells [(.int .i64 t : Value)].toArray 3 (0, 0)))]

theorem scan1_itrZ {n b bl bh bt : Nat} {lo hi : Txt} {t : Int} (hz : VsZvs rs low w0 v) (hb : Bd n (rwvs rs)) (hn : n ≤ 1000000) :
    Itr Try.prog w0 G0 (.func (.func 76) #[] #[.pointer (some ⟨b, 0, none⟩), .pointer (some ⟨bl, 0, none⟩), .pointer (some ⟨bh, 0, none⟩), .pointer (some ⟨bt, 0, none⟩)]) (tellP (scanR (rwvs rs) lo hi t)) (ItS b bl bh bt v lo hi t) := by
  refine ⟨76, _, rfl, by first | exact hent _ (by kernel_rfl) | exact hentD _ (by kernel_rfl), fun yv C D I W RR oy hY h hd hs => ?_⟩
  show CallF Try.prog 76 #[yv, .pointer (some ⟨b, 0, none⟩), .pointer (some ⟨bl, 0, none⟩), .pointer (some ⟨bh, 0, none⟩), .pointer (some ⟨bt, 0, none⟩)] W RR
  refine sh76_calls ?_
  unfold sh76
  replace h := (St.open4 h.swap).2
  have hl1 := hb.1
  rw [rwLenvs] at hl1
  have ov : Cel1 v := by obtain ⟨_, _, rfl, _⟩ := id hz; exact ⟨rfl⟩
  refine h.boxV fun bx W h => ?_
  refine h.load (h.load (h.load ?_))
  refine within_specZ (lo := lo) (hi := hi) hz (by omega) h fun f A W hI of h => ?_
  have hsr := hz.srt
  rw [← sc_tells hsr] at hY hd hs
  have hlen : ∀ x ∈ tellvs (mpvs (rs.filter fun r => inR lo hi r.1)), x.length = 2 := by
    intro x hx
    obtain ⟨p, _, rfl⟩ := List.mem_map.1 hx
    rfl
  refine rngFm (scF (rwvs rs) t) [Ky bx (Ob (.cells [yv].toArray 115 (0, 0))), Ky bt (Ob (.cells [(.int .i64 t : Value)].toArray 3 (0, 0)))] hI hY hlen (l := Ky b (Ob (.cells [v].toArray 35 (0, 0))) :: Ky bl (Ob (.cells [strV lo].toArray 9 (0, 0))) :: Ky bh (Ob (.cells [strV hi].toArray 9 (0, 0))) :: I) ?_ ?_ ?_ ?_
  · simp only [List.cons_append, List.nil_append]
    exact h.to
  · intro i x hxi ll rec I' W kn ks h hno hyes
    obtain ⟨r, hri, rfl⟩ := mpAtvs hxi
    have hmem : r ∈ rs := (List.mem_filter.1 (List.mem_of_getElem? hri)).1
    have hch : chainR (rwvs rs) r.1 = r.2.2 := by
      unfold chainR
      have : getK r.1 (rwvs rs) = some r.2.2 := (mem_iff_get ((mapV_srt _).2 hsr)).1 (List.mem_map.2 ⟨r, hmem, rfl⟩)
      rw [this]; rfl
    have hlc : r.2.2.length ≤ n := hb.2 (r.1, r.2.2) (List.mem_map.2 ⟨r, hmem, rfl⟩)
    simp only [List.cons_append, List.nil_append] at h hno hyes
    rw [scF_at, hch] at hno hyes
    refine app2 ?_
    refine ⟨h.ob (b := ll), ?_⟩
    replace h := h.putO (b := ll) (o := .loop (rec .ready none)) (.loop (rec .busy none))
    refine app4 ?_
    refine h.load ?_
    have hsl : Sl w0 3 r.2.1.v r.2.2.length (chCvs r.2.2) := by
      obtain ⟨_, _, _, _, _, hc⟩ := hz
      exact hc r hmem
    refine toldvs_spec (hsl.below h.low) rfl (by omega) ?_
    refine a_ext0 (a_ext1 ?_)
    refine jni (fun vs W' => kn W') (fun _ _ _ h => h) ?_
    cases ht : toldC r.2.2 t with
    | none =>
      rw [ht] at hno
      exact iff' (hno rfl _ h.to)
    | some u =>
      rw [ht] at hyes
      refine ift ?_
      refine h.load ?_
      refine hyes _ rfl _ _ h.to (fun W'' hk => ?_) fun W'' hk => ?_
      · exact a_not (iff' hk)
      · exact a_not (ift hk)
  · intro DD W h
    simp only [List.cons_append, List.nil_append] at h
    refine ⟨h.ob (b := DD), hd _ ?_⟩
    replace h := h.putO (b := DD) (o := .deferred (some [])) (.deferred none)
    refine St.swap (St.shut4 (φ := True) trivial ?_)
    exact h.to
  · intro DD j W hj h
    simp only [List.cons_append, List.nil_append] at h
    refine ⟨h.ob (b := DD), hs j _ hj ?_⟩
    replace h := h.putO (b := DD) (o := .deferred (some [])) (.deferred none)
    refine St.swap (St.shut4 (φ := True) trivial ?_)
    exact h.to

/-- Scan -/
theorem scan_specZ {n : Nat} {lo hi : Txt} {t : Int} (hz : VsZvs rs low w0 v) (hb : Bd n (rwvs rs)) (hn : n ≤ 1000000) (h : St w0 G0 l W) (k : ∀ f A W', Itr Try.prog w0 G0 f (tellP (scanR (rwvs rs) lo hi t)) A → Cel1 f → St w0 G0 (Ky f A :: l) W' → RR f W') :
    CallF Try.prog 25 #[v, strV lo, strV hi, .int .i64 t] W RR := by
  refine sh25_calls ?_
  unfold sh25
  have ov : Cel1 v := by obtain ⟨_, _, rfl, _⟩ := id hz; exact ⟨rfl⟩
  refine h.boxV fun b W h => ?_
  refine h.boxV fun bl W h => ?_
  refine h.boxV fun bh W h => ?_
  refine h.boxV fun bt W h => ?_
  refine v_func ?_
  exact k _ _ W (scan1_itrZ (b := b) (bl := bl) (bh := bh) (bt := bt) hz hb hn) ⟨rfl⟩ (St.shut4 (φ := True) trivial h.to)
end
end Go.Proofs.Ytffnabbchghokaa
