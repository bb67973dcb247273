/-
  XML, plainly: elements that are written out are read as they were meant.
-/
import Derived.Test.YtlflpbflpcmckaaDoorXmS
namespace Go.Proofs.YtlflpbflpcmckaaDoor
open Go Go.Ez Go.RowKit Go.Lib
set_option linter.unusedSimpArgs false
set_option linter.unusedVariables false
section
variable {p t x : Txt} {out : List XTk} {op : List XFr} {run : Txt} {c d : UInt8} {n : Txt × Txt}
theorem Mr.valGo : ∀ (k : Nat) {s b p : Txt} {f : Nat}, s.length ≤ k → cleanS s = true → s.length < f → b.length + s.length ≤ 8000 → XRd.valGo decX signS 34 f b (Mr p (escS s ++ 34 :: t) out op run) = (b ++ s, Mr (p ++ (escS s ++ [34])) t out op run)
  | k, s, b, p, f, hk, hc, hf, hb => by
    obtain ⟨f, rfl⟩ : ∃ g, f = g + 1 := ⟨f - 1, by omega⟩
    unfold XRd.valGo
    rw [if_neg (fun h => h rfl)]
    by_cases hs : s = []
    · subst hs
      rw [show escS [] ++ 34 :: t = 34 :: t from rfl, Mr.see0]
      dsimp only
      rw [if_neg (fun h => h rfl), if_pos rfl, Mr.on1, decide_eq_false (by simp at hb; omega), List.append_nil]
      rfl
    · obtain ⟨x, s', hxs, hx, hc', hpart, _, c, r, he, h34, h60⟩ := esc_step hs hc
      have hsee : (Mr p (escS s ++ 34 :: t) out op run).see 0 = (c, Mr p (escS s ++ 34 :: t) out op run) := by rw [he, List.cons_append]; exact Mr.see0
      have hxl := List.length_pos_iff.2 hx
      have hlen : s.length = x.length + s'.length := by rw [hxs, List.length_append]
      rw [hsee]
      dsimp only
      rw [if_neg (fun h => h rfl), if_neg h34, if_neg h60, hpart]
      dsimp only
      cases k with
      | zero => omega
      | succ k =>
        rw [Mr.valGo k (by omega) hc' (by omega) (by rw [List.length_append]; omega)]
        have e1 : escS s = escS x ++ escS s' := by rw [hxs, escS_app]
        rw [e1, hxs]
        simp [List.append_assoc]
theorem Mr.value {v : Txt} (hc : cleanS v = true) (hv : v.length ≤ 8000) : XRd.value decX signS (Mr p (34 :: (escS v ++ 34 :: t)) out op run) = (v, Mr (p ++ 34 :: (escS v ++ [34])) t out op run) := by
  unfold XRd.value
  rw [Mr.see0]
  dsimp only
  rw [decide_eq_false (by simp)]
  have hl := (escS_len v).1
  show XRd.valGo decX signS 34 _ [] ((Mr p (34 :: (escS v ++ 34 :: t)) out op run).on 1) = _
  rw [Mr.on1, Mr.valGo v.length (Nat.le_refl _) hc (by show v.length < (p ++ 34 :: (escS v ++ 34 :: t)).length + 3; simp; omega) (by simpa using hv)]
  simp [List.append_assoc]
/-- an attribute az it is written -/
def attT (a : (Txt × Txt) × Txt) : Txt := nmT a.1 ++ 61 :: 34 :: (escS a.2 ++ [34])
def attsT (az : List ((Txt × Txt) × Txt)) : Txt := az.flatMap fun a => 32 :: attT a
def prOf (a : (Txt × Txt) × Txt) : XPr := ⟨a.1.1, a.1.2, a.2⟩
structure AOk (a : (Txt × Txt) × Txt) : Prop where
  name : NOk a.1
  clean : cleanS a.2 = true
  len : a.2.length ≤ 8000
def dupB (l : List XPr) (a : (Txt × Txt) × Txt) : Bool := l.any fun p => decide (p.pre = a.1.1 ∧ p.name = a.1.2)
theorem stops61 : Stops XRd.goes (61 :: t) := .cons (by decide)
theorem Mr.attr {a : (Txt × Txt) × Txt} {l : List XPr} (ha : AOk a) (hd : dupB l a = false) : XRd.attr decX signS l (Mr p (attT a ++ t) out op run) = (prOf a, Mr (p ++ attT a) t out op run) := by
  have e : attT a ++ t = nmT a.1 ++ 61 :: 34 :: (escS a.2 ++ 34 :: t) := by unfold attT; simp [List.append_assoc]
  unfold XRd.attr
  rw [e, Mr.full ha.name stops61 (.cons (by decide))]
  dsimp only
  unfold dupB at hd
  rw [hd, Bool.and_false, show ∀ q : XRd, q.failIf false 4 = q from fun _ => rfl, Mr.blanks0 (.cons (by decide))]
  dsimp only
  rw [show 61 :: 34 :: (escS a.2 ++ 34 :: t) = [61] ++ (34 :: (escS a.2 ++ 34 :: t)) from rfl, Mr.wants, Mr.blanks0 (.cons (by decide))]
  dsimp only
  rw [if_pos (show (Mr _ _ _ _ _).e = 0 from rfl), Mr.value ha.clean ha.len]
  unfold prOf attT
  simp [List.append_assoc]
theorem Mr.attr_dup {a : (Txt × Txt) × Txt} {l : List XPr} (ha : AOk a) (hd : dupB l a = true) : (XRd.attr decX signS l (Mr p (attT a ++ t) out op run)).2.e = 4 := by
  have e : attT a ++ t = nmT a.1 ++ 61 :: 34 :: (escS a.2 ++ 34 :: t) := by unfold attT; simp [List.append_assoc]
  unfold XRd.attr
  rw [e, Mr.full ha.name stops61 (.cons (by decide))]
  dsimp only
  unfold dupB at hd
  rw [hd, decide_eq_true (show (Mr _ _ _ _ _).e = 0 from rfl)]
  generalize hq : (Mr (p ++ nmT a.1) (61 :: 34 :: (escS a.2 ++ 34 :: t)) out op run).failIf (true && true) 4 = q
  have hqe : q.e = 4 := by rw [← hq]; rfl
  have h1 : q.blanks.2.e = 4 := hqe
  have h2 : (XRd.wants [61] q.blanks.2).e = 4 := by rw [XRd.wants_no (by rw [h1]; decide)]; exact h1
  have h3 : (XRd.wants [61] q.blanks.2).blanks.2.e = 4 := h2
  rw [if_neg (by rw [h3]; decide)]
  exact h3
theorem attsT_cons (a : (Txt × Txt) × Txt) (az : List ((Txt × Txt) × Txt)) : attsT (a :: az) = 32 :: (attT a ++ attsT az) := rfl
theorem attsT_len : ∀ az : List ((Txt × Txt) × Txt), az.length ≤ (attsT az).length
  | [] => Nat.le_refl _
  | a :: az => by
    rw [attsT_cons, List.length_cons, List.length_cons, List.length_append]
    have := attsT_len az
    omega
/-- no name twice -/
def noDup (l : List XPr) : List ((Txt × Txt) × Txt) → Bool
  | [] => true
  | a :: az => !dupB l a && noDup (l ++ [prOf a]) az
theorem nmT_head (hn : NOk n) : ∃ c r, nmT n = c :: r ∧ XRd.begs c = true := by
  unfold nmT
  split
  · exact hn.name.head
  · rename_i h
    obtain ⟨c, r, e, hc⟩ := (hn.pre.resolve_left h).head
    exact ⟨c, r ++ 58 :: n.2, by rw [e]; rfl, hc⟩
theorem begs_no {c : UInt8} (h : XRd.begs c = true) : c ≠ 47 ∧ c ≠ 62 ∧ c ≠ 33 ∧ c ≠ 63 ∧ XRd.isBl c = false := by
  have hx : ∀ x : Fin 256, XRd.begs (UInt8.ofNat x.val) = true → (UInt8.ofNat x.val) ≠ 47 ∧ (UInt8.ofNat x.val) ≠ 62 ∧ (UInt8.ofNat x.val) ≠ 33 ∧ (UInt8.ofNat x.val) ≠ 63 ∧ XRd.isBl (UInt8.ofNat x.val) = false := by decide +kernel
  have := hx ⟨c.toNat, c.toNat_lt⟩
  simp only [UInt8.ofNat_toNat] at this
  exact this h
theorem attrs_step {a : (Txt × Txt) × Txt} {l : List XPr} {f : Nat} (ha : AOk a) : XRd.attrsGo decX signS (f + 1) l (Mr p (32 :: (attT a ++ t)) out op run) = XRd.attrsGo decX signS f (l ++ [(XRd.attr decX signS l (Mr (p ++ [32]) (attT a ++ t) out op run)).1]) (XRd.attr decX signS l (Mr (p ++ [32]) (attT a ++ t) out op run)).2 := by
  obtain ⟨c, r, hc, hb⟩ := nmT_head ha.name
  obtain ⟨h47, h62, _, _, hbl⟩ := begs_no hb
  obtain ⟨r', hat⟩ : ∃ r', attT a ++ t = c :: r' := by unfold attT; rw [hc]; exact ⟨_, rfl⟩
  conv => lhs; unfold XRd.attrsGo
  rw [if_neg (fun h => h rfl), hat, show 32 :: c :: r' = [32] ++ (c :: r') from rfl, Mr.blanks (by decide) (.cons hbl)]
  dsimp only
  rw [Mr.see0]
  dsimp only
  rw [if_neg (by rintro (e | e | e); exact e rfl; exact h47 e; exact h62 e), if_neg (by simp)]
theorem Mr.attrsGo {e : UInt8} (he : e = 47 ∨ e = 62) : ∀ {az : List ((Txt × Txt) × Txt)} {l : List XPr} {f : Nat} {p : Txt}, (∀ a ∈ az, AOk a) → noDup l az = true → az.length < f → XRd.attrsGo decX signS f l (Mr p (attsT az ++ e :: t) out op run) = (l ++ az.map prOf, Mr (p ++ attsT az) (e :: t) out op run)
  | [], l, f, p, _, _, hf => by
    obtain ⟨f, rfl⟩ : ∃ g, f = g + 1 := ⟨f - 1, by omega⟩
    unfold XRd.attrsGo
    rw [if_neg (fun h => h rfl), show attsT [] ++ e :: t = e :: t from rfl, Mr.blanks0 (.cons (by rcases he with rfl | rfl <;> decide))]
    dsimp only
    rw [Mr.see0]
    dsimp only
    rw [if_pos (.inr he)]
    simp [attsT]
  | a :: az, l, f, p, ha, hd, hf => by
    obtain ⟨f, rfl⟩ : ∃ g, f = g + 1 := ⟨f - 1, by omega⟩
    unfold noDup at hd
    rw [Bool.and_eq_true, Bool.not_eq_true'] at hd
    have ha1 := ha a (by simp)
    rw [attsT_cons, List.cons_append, List.append_assoc, attrs_step ha1, Mr.attr ha1 hd.1]
    dsimp only
    rw [Mr.attrsGo he (fun b hb => ha b (by simp [hb])) hd.2 (by simp at hf; omega)]
    simp [List.append_assoc]
theorem attrs_dup {e : UInt8} : ∀ {az : List ((Txt × Txt) × Txt)} {l : List XPr} {f : Nat} {p : Txt}, (∀ a ∈ az, AOk a) → noDup l az = false → az.length < f → (XRd.attrsGo decX signS f l (Mr p (attsT az ++ e :: t) out op run)).2.e = 4
  | [], l, f, p, _, hd, hf => by cases hd
  | a :: az, l, f, p, ha, hd, hf => by
    obtain ⟨f, rfl⟩ : ∃ g, f = g + 1 := ⟨f - 1, by omega⟩
    have ha1 := ha a (by simp)
    rw [attsT_cons, List.cons_append, List.append_assoc, attrs_step ha1]
    cases hdd : dupB l a with
    | true =>
      have h4 := Mr.attr_dup (p := p ++ [32]) (t := attsT az ++ e :: t) (out := out) (op := op) (run := run) ha1 hdd
      have : ∀ (f : Nat) (l : List XPr) (q : XRd), q.e = 4 → (XRd.attrsGo decX signS f l q).2.e = 4 := fun f l q hq => by
        cases f with
        | zero => exact hq
        | succ f => unfold XRd.attrsGo; rw [if_pos (by rw [hq]; decide)]; exact hq
      exact this _ _ _ h4
    | false =>
      unfold noDup at hd
      rw [hdd, Bool.not_false, Bool.true_and] at hd
      rw [Mr.attr ha1 hdd]
      dsimp only
      exact attrs_dup (fun b hb => ha b (by simp [hb])) hd (by simp at hf; omega)
/-- attributes' spaces -/
def attsP (f : XFr) (op : List XFr) : List XPr → Option (List XAt)
  | [] => some []
  | p :: l => if (XRd.tells p).2 then attsP f op l else
    match (if p.pre ≠ [] then XRd.spaceV f p.pre op else some []) with
    | none => none
    | some s => (attsP f op l).map fun r => ⟨s, p.name, p.value⟩ :: r
theorem attsOf_ok {f : XFr} {r : XRd} : ∀ {l : List XPr} {o ats : List XAt}, attsP f r.op l = some ats → XRd.attsOf f l o r = (o ++ ats, r)
  | [], o, ats, h => by cases h; rw [List.append_nil]; rfl
  | p :: l, o, ats, h => by
    unfold attsP at h
    unfold XRd.attsOf
    split at h
    · rename_i ht
      rw [if_pos ht]
      exact attsOf_ok h
    · rename_i ht
      rw [if_neg ht]
      split at h
      · cases h
      · rename_i s hs
        obtain ⟨r', hr, e⟩ := Option.map_eq_some_iff.1 h
        by_cases hp : p.pre ≠ []
        · rw [if_pos hp] at hs ⊢
          rw [XRd.space_eq, hs]
          dsimp only
          rw [attsOf_ok hr, ← e]
          simp
        · rw [if_neg hp] at hs ⊢
          cases hs
          rw [attsOf_ok hr, ← e]
          simp
theorem Mr.begin_ {l : List XPr} {sp : Txt} {ats : List XAt} (hs : XRd.spaceV ⟨n.1, n.2, XRd.spacesOf l []⟩ n.1 op = some sp) (ha : attsP ⟨n.1, n.2, XRd.spacesOf l []⟩ op l = some ats) : XRd.begin_ n l (Mr p t out op run) = (⟨n.1, n.2, XRd.spacesOf l []⟩, Mr p t (out ++ [⟨1, sp, n.2, [], ats⟩]) op run) := by
  unfold XRd.begin_
  dsimp only
  have h1 : XRd.space ⟨n.1, n.2, XRd.spacesOf l []⟩ n.1 (Mr p t out op run) = (sp, Mr p t out op run) := by
    rw [XRd.space_eq, show (Mr p t out op run).op = op from rfl, hs]
  rw [h1]
  dsimp only
  rw [attsOf_ok (r := Mr p t out op run) ha]
  rfl
theorem Mr.close {f : XFr} {sp : Txt} (hs : XRd.spaceV f f.pre op = some sp) : XRd.close f (Mr p t out op run) = Mr p t (out ++ [⟨2, sp, f.name, [], []⟩]) op run := by
  unfold XRd.close
  have h1 : XRd.space f f.pre (Mr p t out op run) = (sp, Mr p t out op run) := by
    rw [XRd.space_eq, show (Mr p t out op run).op = op from rfl, hs]
  rw [h1]
  rfl
abbrev frOf (n : Txt × Txt) (az : List ((Txt × Txt) × Txt)) : XFr := ⟨n.1, n.2, XRd.spacesOf (az.map prOf) []⟩
theorem stopsA {e : UInt8} (he : e = 47 ∨ e = 62) {az : List ((Txt × Txt) × Txt)} {g : UInt8 → Bool} (h32 : g 32 = false) (h47 : g 47 = false) (h62 : g 62 = false) : Stops g (attsT az ++ e :: t) := by
  cases az with
  | nil => exact .cons (by rcases he with rfl | rfl; exact h47; exact h62)
  | cons a az => exact .cons h32
theorem Mr.element_head {e : UInt8} (he : e = 47 ∨ e = 62) {az : List ((Txt × Txt) × Txt)} (hn : NOk n) (ha : ∀ a ∈ az, AOk a) (hd : noDup [] az = true) :
    (Mr (p ++ [60]) (nmT n ++ (attsT az ++ e :: t)) out op run).full = (n, Mr (p ++ [60] ++ nmT n) (attsT az ++ e :: t) out op run) ∧
    XRd.attrs decX signS (Mr (p ++ [60] ++ nmT n) (attsT az ++ e :: t) out op run) = (az.map prOf, Mr (p ++ [60] ++ nmT n ++ attsT az) (e :: t) out op run) := by
  refine ⟨Mr.full hn (stopsA he (by decide) (by decide) (by decide)) (stopsA he (by decide) (by decide) (by decide)), ?_⟩
  unfold XRd.attrs
  have hl := attsT_len az
  rw [Mr.attrsGo he ha hd (by show az.length < (p ++ [60] ++ nmT n ++ (attsT az ++ e :: t)).length + 3; simp; omega), List.nil_append]
/-- an element that is opened -/
theorem Mr.element {az : List ((Txt × Txt) × Txt)} {sp : Txt} {ats : List XAt} (hn : NOk n) (ha : ∀ a ∈ az, AOk a) (hd : noDup [] az = true) (hop : op.length < 64) (hs : XRd.spaceV (frOf n az) n.1 op = some sp) (hat : attsP (frOf n az) op (az.map prOf) = some ats) :
    XRd.element decX signS (Mr p (60 :: (nmT n ++ (attsT az ++ 62 :: t))) out op run) = Mr (p ++ 60 :: (nmT n ++ (attsT az ++ [62]))) t (out ++ [⟨1, sp, n.2, [], ats⟩]) (op ++ [frOf n az]) run := by
  obtain ⟨h1, h2⟩ := Mr.element_head (p := p) (t := t) (out := out) (op := op) (run := run) (e := 62) (.inr rfl) hn ha hd
  unfold XRd.element
  dsimp only
  rw [Mr.on1, if_neg (by show ¬ 64 ≤ op.length; omega), h1]
  dsimp only
  rw [h2]
  dsimp only
  rw [if_neg (fun h => h rfl), Mr.see0]
  dsimp only
  have e62 : ((62 : UInt8) = 47) = False := eq_false (by decide)
  simp only [e62, if_false]
  rw [show (62 : UInt8) :: t = [62] ++ t from rfl, Mr.wants]
  rw [if_neg (fun h => h rfl), Mr.begin_ hs hat]
  unfold Mr
  simp [List.append_assoc]
/-- an element that is opened and closed at once -/
theorem Mr.element1 {az : List ((Txt × Txt) × Txt)} {sp : Txt} {ats : List XAt} (hn : NOk n) (ha : ∀ a ∈ az, AOk a) (hd : noDup [] az = true) (hop : op.length < 64) (hs : XRd.spaceV (frOf n az) n.1 op = some sp) (hat : attsP (frOf n az) op (az.map prOf) = some ats) :
    XRd.element decX signS (Mr p (60 :: (nmT n ++ (attsT az ++ 47 :: 62 :: t))) out op run) = Mr (p ++ 60 :: (nmT n ++ (attsT az ++ [47, 62]))) t (out ++ [⟨1, sp, n.2, [], ats⟩] ++ [⟨2, sp, n.2, [], []⟩]) op run := by
  obtain ⟨h1, h2⟩ := Mr.element_head (p := p) (t := 62 :: t) (out := out) (op := op) (run := run) (e := 47) (.inl rfl) hn ha hd
  unfold XRd.element
  dsimp only
  rw [Mr.on1, if_neg (by show ¬ 64 ≤ op.length; omega), h1]
  dsimp only
  rw [h2]
  dsimp only
  rw [if_neg (fun h => h rfl), Mr.see0]
  dsimp only
  simp only [if_true]
  rw [Mr.on1, show (62 : UInt8) :: t = [62] ++ t from rfl, Mr.wants]
  rw [if_neg (fun h => h rfl), Mr.begin_ hs hat]
  dsimp only
  rw [Mr.close hs]
  unfold Mr
  simp [List.append_assoc]
end
end Go.Proofs.YtlflpbflpcmckaaDoor
