/-
  XML, plainly: elements and whole documents that are written out are read as they were meant.
-/
import Derived.Test.YtlflpbflpcmckaaDoorXmS
namespace Go.Proofs.YtlflpbflpcmckaaDoor
open Go Go.Ez Go.RowKit Go.Lib
set_option linter.unusedSimpArgs false
set_option linter.unusedVariables false
section
variable {p t x : Txt} {out : List XTk} {op : List XFr} {run : Txt} {c d : UInt8} {n : Txt × Txt}
theorem Mr.valGo : ∀ (k : Nat) {s b p : Txt} {f : Nat}, s.length ≤ k → cleanS s = true → s.length < f → b.length + s.length ≤ 8000 → XRd.valGo decX signS 34 f b (Mr p (escS s ++ 34 :: t) out op run) = (b ++ s, Mr (p ++ (escS s ++ [34])) t out op run)
  | k, s, b, p, f, hk, hc, hf, hb => by
    obtain ⟨f, rfl⟩ : ∃ g, f = g + 1 := ⟨f - 1, by omega⟩
    unfold XRd.valGo
    rw [if_neg (fun h => h rfl)]
    by_cases hs : s = []
    · subst hs
      rw [show escS [] ++ 34 :: t = 34 :: t from rfl, Mr.see0]
      dsimp only
      rw [if_neg (fun h => h rfl), if_pos rfl, Mr.on1, decide_eq_false (by simp at hb; omega), List.append_nil]
      rfl
    · obtain ⟨x, s', hxs, hx, hc', hpart, _, c, r, he, h34, h60⟩ := esc_step hs hc
      have hsee : (Mr p (escS s ++ 34 :: t) out op run).see 0 = (c, Mr p (escS s ++ 34 :: t) out op run) := by rw [he, List.cons_append]; exact Mr.see0
      have hxl := List.length_pos_iff.2 hx
      have hlen : s.length = x.length + s'.length := by rw [hxs, List.length_append]
      rw [hsee]
      dsimp only
      rw [if_neg (fun h => h rfl), if_neg h34, if_neg h60, hpart]
      dsimp only
      cases k with
      | zero => omega
      | succ k =>
        rw [Mr.valGo k (by omega) hc' (by omega) (by rw [List.length_append]; omega)]
        have e1 : escS s = escS x ++ escS s' := by rw [hxs, escS_app]
        rw [e1, hxs]
        simp [List.append_assoc]
theorem Mr.value {v : Txt} (hc : cleanS v = true) (hv : v.length ≤ 8000) : XRd.value decX signS (Mr p (34 :: (escS v ++ 34 :: t)) out op run) = (v, Mr (p ++ 34 :: (escS v ++ [34])) t out op run) := by
  unfold XRd.value
  rw [Mr.see0]
  dsimp only
  rw [decide_eq_false (by simp)]
  have hl := (escS_len v).1
  show XRd.valGo decX signS 34 _ [] ((Mr p (34 :: (escS v ++ 34 :: t)) out op run).on 1) = _
  rw [Mr.on1, Mr.valGo v.length (Nat.le_refl _) hc (by show v.length < (p ++ 34 :: (escS v ++ 34 :: t)).length + 3; simp; omega) (by simpa using hv)]
  simp [List.append_assoc]
/-- an attribute az it is written -/
def attT (a : (Txt × Txt) × Txt) : Txt := nmT a.1 ++ 61 :: 34 :: (escS a.2 ++ [34])
def attsT (az : List ((Txt × Txt) × Txt)) : Txt := az.flatMap fun a => 32 :: attT a
def prOf (a : (Txt × Txt) × Txt) : XPr := ⟨a.1.1, a.1.2, a.2⟩
structure AOk (a : (Txt × Txt) × Txt) : Prop where
  name : NOk a.1
  clean : cleanS a.2 = true
  len : a.2.length ≤ 8000
def dupB (l : List XPr) (a : (Txt × Txt) × Txt) : Bool := l.any fun p => decide (p.pre = a.1.1 ∧ p.name = a.1.2)
theorem stops61 : Stops XRd.goes (61 :: t) := .cons (by decide)
theorem Mr.attr {a : (Txt × Txt) × Txt} {l : List XPr} (ha : AOk a) (hd : dupB l a = false) : XRd.attr decX signS l (Mr p (attT a ++ t) out op run) = (prOf a, Mr (p ++ attT a) t out op run) := by
  have e : attT a ++ t = nmT a.1 ++ 61 :: 34 :: (escS a.2 ++ 34 :: t) := by unfold attT; simp [List.append_assoc]
  unfold XRd.attr
  rw [e, Mr.full ha.name stops61 (.cons (by decide))]
  dsimp only
  unfold dupB at hd
  rw [hd, Bool.and_false, show ∀ q : XRd, q.failIf false 4 = q from fun _ => rfl, Mr.blanks0 (.cons (by decide))]
  dsimp only
  rw [show 61 :: 34 :: (escS a.2 ++ 34 :: t) = [61] ++ (34 :: (escS a.2 ++ 34 :: t)) from rfl, Mr.wants, Mr.blanks0 (.cons (by decide))]
  dsimp only
  rw [if_pos (show (Mr _ _ _ _ _).e = 0 from rfl), Mr.value ha.clean ha.len]
  unfold prOf attT
  simp [List.append_assoc]
theorem Mr.attr_dup {a : (Txt × Txt) × Txt} {l : List XPr} (ha : AOk a) (hd : dupB l a = true) : (XRd.attr decX signS l (Mr p (attT a ++ t) out op run)).2.e = 4 := by
  have e : attT a ++ t = nmT a.1 ++ 61 :: 34 :: (escS a.2 ++ 34 :: t) := by unfold attT; simp [List.append_assoc]
  unfold XRd.attr
  rw [e, Mr.full ha.name stops61 (.cons (by decide))]
  dsimp only
  unfold dupB at hd
  rw [hd, decide_eq_true (show (Mr _ _ _ _ _).e = 0 from rfl)]
  generalize hq : (Mr (p ++ nmT a.1) (61 :: 34 :: (escS a.2 ++ 34 :: t)) out op run).failIf (true && true) 4 = q
  have hqe : q.e = 4 := by rw [← hq]; rfl
  have h1 : q.blanks.2.e = 4 := hqe
  have h2 : (XRd.wants [61] q.blanks.2).e = 4 := by rw [XRd.wants_no (by rw [h1]; decide)]; exact h1
  have h3 : (XRd.wants [61] q.blanks.2).blanks.2.e = 4 := h2
  rw [if_neg (by rw [h3]; decide)]
  exact h3
theorem attsT_cons (a : (Txt × Txt) × Txt) (az : List ((Txt × Txt) × Txt)) : attsT (a :: az) = 32 :: (attT a ++ attsT az) := rfl
theorem attsT_len : ∀ az : List ((Txt × Txt) × Txt), az.length ≤ (attsT az).length
  | [] => Nat.le_refl _
  | a :: az => by
    rw [attsT_cons, List.length_cons, List.length_cons, List.length_append]
    have := attsT_len az
    omega
/-- no name twice -/
def noDup (l : List XPr) : List ((Txt × Txt) × Txt) → Bool
  | [] => true
  | a :: az => !dupB l a && noDup (l ++ [prOf a]) az
theorem nmT_head (hn : NOk n) : ∃ c r, nmT n = c :: r ∧ XRd.begs c = true := by
  unfold nmT
  split
  · exact hn.name.head
  · rename_i h
    obtain ⟨c, r, e, hc⟩ := (hn.pre.resolve_left h).head
    exact ⟨c, r ++ 58 :: n.2, by rw [e]; rfl, hc⟩
theorem begs_no {c : UInt8} (h : XRd.begs c = true) : c ≠ 47 ∧ c ≠ 62 ∧ c ≠ 33 ∧ c ≠ 63 ∧ XRd.isBl c = false := by
  have hx : ∀ x : Fin 256, XRd.begs (UInt8.ofNat x.val) = true → (UInt8.ofNat x.val) ≠ 47 ∧ (UInt8.ofNat x.val) ≠ 62 ∧ (UInt8.ofNat x.val) ≠ 33 ∧ (UInt8.ofNat x.val) ≠ 63 ∧ XRd.isBl (UInt8.ofNat x.val) = false := by decide +kernel
  have := hx ⟨c.toNat, c.toNat_lt⟩
  simp only [UInt8.ofNat_toNat] at this
  exact this h
theorem attrs_step {a : (Txt × Txt) × Txt} {l : List XPr} {f : Nat} (ha : AOk a) : XRd.attrsGo decX signS (f + 1) l (Mr p (32 :: (attT a ++ t)) out op run) = XRd.attrsGo decX signS f (l ++ [(XRd.attr decX signS l (Mr (p ++ [32]) (attT a ++ t) out op run)).1]) (XRd.attr decX signS l (Mr (p ++ [32]) (attT a ++ t) out op run)).2 := by
  obtain ⟨c, r, hc, hb⟩ := nmT_head ha.name
  obtain ⟨h47, h62, _, _, hbl⟩ := begs_no hb
  obtain ⟨r', hat⟩ : ∃ r', attT a ++ t = c :: r' := by unfold attT; rw [hc]; exact ⟨_, rfl⟩
  conv => lhs; unfold XRd.attrsGo
  rw [if_neg (fun h => h rfl), hat, show 32 :: c :: r' = [32] ++ (c :: r') from rfl, Mr.blanks (by decide) (.cons hbl)]
  dsimp only
  rw [Mr.see0]
  dsimp only
  rw [if_neg (by rintro (e | e | e); exact e rfl; exact h47 e; exact h62 e), if_neg (by simp)]
theorem Mr.attrsGo {e : UInt8} (he : e = 47 ∨ e = 62) : ∀ {az : List ((Txt × Txt) × Txt)} {l : List XPr} {f : Nat} {p : Txt}, (∀ a ∈ az, AOk a) → noDup l az = true → az.length < f → XRd.attrsGo decX signS f l (Mr p (attsT az ++ e :: t) out op run) = (l ++ az.map prOf, Mr (p ++ attsT az) (e :: t) out op run)
  | [], l, f, p, _, _, hf => by
    obtain ⟨f, rfl⟩ : ∃ g, f = g + 1 := ⟨f - 1, by omega⟩
    unfold XRd.attrsGo
    rw [if_neg (fun h => h rfl), show attsT [] ++ e :: t = e :: t from rfl, Mr.blanks0 (.cons (by rcases he with rfl | rfl <;> decide))]
    dsimp only
    rw [Mr.see0]
    dsimp only
    rw [if_pos (.inr he)]
    simp [attsT]
  | a :: az, l, f, p, ha, hd, hf => by
    obtain ⟨f, rfl⟩ : ∃ g, f = g + 1 := ⟨f - 1, by omega⟩
    unfold noDup at hd
    rw [Bool.and_eq_true, Bool.not_eq_true'] at hd
    have ha1 := ha a (by simp)
    rw [attsT_cons, List.cons_append, List.append_assoc, attrs_step ha1, Mr.attr ha1 hd.1]
    dsimp only
    rw [Mr.attrsGo he (fun b hb => ha b (by simp [hb])) hd.2 (by simp at hf; omega)]
    simp [List.append_assoc]
theorem attrs_dup {e : UInt8} : ∀ {az : List ((Txt × Txt) × Txt)} {l : List XPr} {f : Nat} {p : Txt}, (∀ a ∈ az, AOk a) → noDup l az = false → az.length < f → (XRd.attrsGo decX signS f l (Mr p (attsT az ++ e :: t) out op run)).2.e = 4
  | [], l, f, p, _, hd, hf => by cases hd
  | a :: az, l, f, p, ha, hd, hf => by
    obtain ⟨f, rfl⟩ : ∃ g, f = g + 1 := ⟨f - 1, by omega⟩
    have ha1 := ha a (by simp)
    rw [attsT_cons, List.cons_append, List.append_assoc, attrs_step ha1]
    cases hdd : dupB l a with
    | true =>
      have h4 := Mr.attr_dup (p := p ++ [32]) (t := attsT az ++ e :: t) (out := out) (op := op) (run := run) ha1 hdd
      have : ∀ (f : Nat) (l : List XPr) (q : XRd), q.e = 4 → (XRd.attrsGo decX signS f l q).2.e = 4 := fun f l q hq => by
        cases f with
        | zero => exact hq
        | succ f => unfold XRd.attrsGo; rw [if_pos (by rw [hq]; decide)]; exact hq
      exact this _ _ _ h4
    | false =>
      unfold noDup at hd
      rw [hdd, Bool.not_false, Bool.true_and] at hd
      rw [Mr.attr ha1 hdd]
      dsimp only
      exact attrs_dup (fun b hb => ha b (by simp [hb])) hd (by simp at hf; omega)
/-- attributes' spaces -/
def attsP (f : XFr) (op : List XFr) : List XPr → Option (List XAt)
  | [] => some []
  | p :: l => if (XRd.tells p).2 then attsP f op l else
    match (if p.pre ≠ [] then XRd.spaceV f p.pre op else some []) with
    | none => none
    | some s => (attsP f op l).map fun r => ⟨s, p.name, p.value⟩ :: r
theorem attsOf_ok {f : XFr} {r : XRd} : ∀ {l : List XPr} {o ats : List XAt}, attsP f r.op l = some ats → XRd.attsOf f l o r = (o ++ ats, r)
  | [], o, ats, h => by cases h; rw [List.append_nil]; rfl
  | p :: l, o, ats, h => by
    unfold attsP at h
    unfold XRd.attsOf
    split at h
    · rename_i ht
      rw [if_pos ht]
      exact attsOf_ok h
    · rename_i ht
      rw [if_neg ht]
      split at h
      · cases h
      · rename_i s hs
        obtain ⟨r', hr, e⟩ := Option.map_eq_some_iff.1 h
        by_cases hp : p.pre ≠ []
        · rw [if_pos hp] at hs ⊢
          rw [XRd.space_eq, hs]
          dsimp only
          rw [attsOf_ok hr, ← e]
          simp
        · rw [if_neg hp] at hs ⊢
          cases hs
          rw [attsOf_ok hr, ← e]
          simp
theorem Mr.begin_ {l : List XPr} {sp : Txt} {ats : List XAt} (hs : XRd.spaceV ⟨n.1, n.2, XRd.spacesOf l []⟩ n.1 op = some sp) (ha : attsP ⟨n.1, n.2, XRd.spacesOf l []⟩ op l = some ats) : XRd.begin_ n l (Mr p t out op run) = (⟨n.1, n.2, XRd.spacesOf l []⟩, Mr p t (out ++ [⟨1, sp, n.2, [], ats⟩]) op run) := by
  unfold XRd.begin_
  dsimp only
  have h1 : XRd.space ⟨n.1, n.2, XRd.spacesOf l []⟩ n.1 (Mr p t out op run) = (sp, Mr p t out op run) := by
    rw [XRd.space_eq, show (Mr p t out op run).op = op from rfl, hs]
  rw [h1]
  dsimp only
  rw [attsOf_ok (r := Mr p t out op run) ha]
  rfl
theorem Mr.close {f : XFr} {sp : Txt} (hs : XRd.spaceV f f.pre op = some sp) : XRd.close f (Mr p t out op run) = Mr p t (out ++ [⟨2, sp, f.name, [], []⟩]) op run := by
  unfold XRd.close
  have h1 : XRd.space f f.pre (Mr p t out op run) = (sp, Mr p t out op run) := by
    rw [XRd.space_eq, show (Mr p t out op run).op = op from rfl, hs]
  rw [h1]
  rfl
abbrev frOf (n : Txt × Txt) (az : List ((Txt × Txt) × Txt)) : XFr := ⟨n.1, n.2, XRd.spacesOf (az.map prOf) []⟩
theorem stopsA {e : UInt8} (he : e = 47 ∨ e = 62) {az : List ((Txt × Txt) × Txt)} {g : UInt8 → Bool} (h32 : g 32 = false) (h47 : g 47 = false) (h62 : g 62 = false) : Stops g (attsT az ++ e :: t) := by
  cases az with
  | nil => exact .cons (by rcases he with rfl | rfl; exact h47; exact h62)
  | cons a az => exact .cons h32
theorem Mr.element_head {e : UInt8} (he : e = 47 ∨ e = 62) {az : List ((Txt × Txt) × Txt)} (hn : NOk n) (ha : ∀ a ∈ az, AOk a) (hd : noDup [] az = true) :
    (Mr (p ++ [60]) (nmT n ++ (attsT az ++ e :: t)) out op run).full = (n, Mr (p ++ [60] ++ nmT n) (attsT az ++ e :: t) out op run) ∧
    XRd.attrs decX signS (Mr (p ++ [60] ++ nmT n) (attsT az ++ e :: t) out op run) = (az.map prOf, Mr (p ++ [60] ++ nmT n ++ attsT az) (e :: t) out op run) := by
  refine ⟨Mr.full hn (stopsA he (by decide) (by decide) (by decide)) (stopsA he (by decide) (by decide) (by decide)), ?_⟩
  unfold XRd.attrs
  have hl := attsT_len az
  rw [Mr.attrsGo he ha hd (by show az.length < (p ++ [60] ++ nmT n ++ (attsT az ++ e :: t)).length + 3; simp; omega), List.nil_append]
/-- an element that is opened -/
theorem Mr.element {az : List ((Txt × Txt) × Txt)} {sp : Txt} {ats : List XAt} (hn : NOk n) (ha : ∀ a ∈ az, AOk a) (hd : noDup [] az = true) (hop : op.length < 64) (hs : XRd.spaceV (frOf n az) n.1 op = some sp) (hat : attsP (frOf n az) op (az.map prOf) = some ats) :
    XRd.element decX signS (Mr p (60 :: (nmT n ++ (attsT az ++ 62 :: t))) out op run) = Mr (p ++ 60 :: (nmT n ++ (attsT az ++ [62]))) t (out ++ [⟨1, sp, n.2, [], ats⟩]) (op ++ [frOf n az]) run := by
  obtain ⟨h1, h2⟩ := Mr.element_head (p := p) (t := t) (out := out) (op := op) (run := run) (e := 62) (.inr rfl) hn ha hd
  unfold XRd.element
  dsimp only
  rw [Mr.on1, if_neg (by show ¬ 64 ≤ op.length; omega), h1]
  dsimp only
  rw [h2]
  dsimp only
  rw [if_neg (fun h => h rfl), Mr.see0]
  dsimp only
  have e62 : ((62 : UInt8) = 47) = False := eq_false (by decide)
  simp only [e62, if_false]
  rw [show (62 : UInt8) :: t = [62] ++ t from rfl, Mr.wants]
  rw [if_neg (fun h => h rfl), Mr.begin_ hs hat]
  unfold Mr
  simp [List.append_assoc]
/-- an element that is opened and closed at once -/
theorem Mr.element1 {az : List ((Txt × Txt) × Txt)} {sp : Txt} {ats : List XAt} (hn : NOk n) (ha : ∀ a ∈ az, AOk a) (hd : noDup [] az = true) (hop : op.length < 64) (hs : XRd.spaceV (frOf n az) n.1 op = some sp) (hat : attsP (frOf n az) op (az.map prOf) = some ats) :
    XRd.element decX signS (Mr p (60 :: (nmT n ++ (attsT az ++ 47 :: 62 :: t))) out op run) = Mr (p ++ 60 :: (nmT n ++ (attsT az ++ [47, 62]))) t (out ++ [⟨1, sp, n.2, [], ats⟩] ++ [⟨2, sp, n.2, [], []⟩]) op run := by
  obtain ⟨h1, h2⟩ := Mr.element_head (p := p) (t := 62 :: t) (out := out) (op := op) (run := run) (e := 47) (.inl rfl) hn ha hd
  unfold XRd.element
  dsimp only
  rw [Mr.on1, if_neg (by show ¬ 64 ≤ op.length; omega), h1]
  dsimp only
  rw [h2]
  dsimp only
  rw [if_neg (fun h => h rfl), Mr.see0]
  dsimp only
  simp only [if_true]
  rw [Mr.on1, show (62 : UInt8) :: t = [62] ++ t from rfl, Mr.wants]
  rw [if_neg (fun h => h rfl), Mr.begin_ hs hat]
  dsimp only
  rw [Mr.close hs]
  unfold Mr
  simp [List.append_assoc]
variable {e : Txt}
/-- nowhere in x does e begin, ahead of its own place -/
def NoM (e x t : Txt) : Prop := ∀ a b, x = a ++ b → b ≠ [] → XRd.isPre e (b ++ (e ++ t)) = false
theorem noM_head {c : UInt8} {e' : Txt} (h : c ∉ x) : NoM (c :: e') x t := by
  rintro a b rfl hb
  unfold XRd.isPre
  refine decide_eq_false fun he => ?_
  cases b with
  | nil => exact hb rfl
  | cons d b =>
    rw [List.cons_append, List.length_cons, List.take_succ_cons] at he
    injection he with h1 _
    exact h (by rw [← h1]; simp)
theorem noM_cdata {s : Txt} (h : ∀ i, i + 2 < s.length → (s.drop i).take 3 ≠ [93, 93, 62]) : NoM [93, 93, 62] s t := by
  rintro a b rfl hb
  unfold XRd.isPre
  refine decide_eq_false fun he => ?_
  match b, hb with
  | [c], _ => simp at he
  | [c, d], _ => simp at he
  | c :: d :: f :: r, _ =>
    refine h a.length (by simp only [List.length_append, List.length_cons]; omega) ?_
    rw [List.drop_left]
    simpa using he
theorem NoM.tail {y : Txt} (h : NoM e (y ++ x) t) : NoM e x t := fun a b hab hb => h (y ++ a) b (by rw [hab, List.append_assoc]) hb
theorem isPre_self : XRd.isPre e (e ++ t) = true := by
  unfold XRd.isPre
  exact decide_eq_true List.take_left
theorem Mr.signs : ∀ (k : Nat) {x p : Txt} {f : Nat}, x.length ≤ k → cleanS x = true → x.length < f → NoM e x t → XRd.signs decX e f (Mr p (x ++ (e ++ t)) out op run) = Mr (p ++ x) (e ++ t) out op run
  | k, x, p, f, hk, hc, hf, hn => by
    obtain ⟨f, rfl⟩ : ∃ g, f = g + 1 := ⟨f - 1, by omega⟩
    unfold XRd.signs
    by_cases hx : x = []
    · subst hx
      rw [List.nil_append, Mr.rest, isPre_self, if_neg (fun h => absurd h.2 (by decide)), List.append_nil]
    · obtain ⟨y, x', hxs, hy, hc', _, hsign, _⟩ := esc_step hx hc
      have hyl := List.length_pos_iff.2 hy
      have hlen : x.length = y.length + x'.length := by rw [hxs, List.length_append]
      rw [Mr.rest, if_pos ⟨rfl, hn [] x rfl hx⟩, hsign]
      cases k with
      | zero => omega
      | succ k =>
        rw [Mr.signs k (by omega) hc' (by omega) (by rw [hxs] at hn; exact hn.tail), hxs, List.append_assoc]
theorem Mr.til (hc : cleanS x = true) (hn : NoM e x t) : XRd.til decX e (Mr p (x ++ (e ++ t)) out op run) = (x, Mr (p ++ (x ++ e)) t out op run) := by
  unfold XRd.til
  have hs := Mr.signs (p := p) (out := out) (op := op) (run := run) x.length (Nat.le_refl _) hc (f := (Mr p (x ++ (e ++ t)) out op run).s.length + 2) (by show x.length < (p ++ (x ++ (e ++ t))).length + 2; simp; omega) hn
  rw [hs, if_neg (fun h => h rfl)]
  refine Prod.ext ?_ ?_
  · show ((p ++ (x ++ (e ++ t))).drop p.length).take ((p ++ x).length - p.length) = x
    rw [List.drop_left, List.length_append, Nat.add_sub_cancel_left, List.take_left]
  · show (Mr (p ++ x) (e ++ t) out op run).on e.length = _
    rw [Mr.on, List.append_assoc]
theorem Mr.comment (hc : cleanS x = true) (hn : NoM [45, 45] x (62 :: t)) : XRd.comment decX (Mr p (60 :: 33 :: 45 :: 45 :: (x ++ 45 :: 45 :: 62 :: t)) out op run) = Mr (p ++ 60 :: 33 :: 45 :: 45 :: (x ++ [45, 45, 62])) t out op run := by
  unfold XRd.comment
  have h1 := Mr.wants (x := [60, 33, 45, 45]) (p := p) (t := x ++ ([45, 45] ++ 62 :: t)) (out := out) (op := op) (run := run)
  rw [show (60 :: 33 :: 45 :: 45 :: (x ++ 45 :: 45 :: 62 :: t)) = ([60, 33, 45, 45] : Txt) ++ (x ++ ([45, 45] ++ 62 :: t)) from rfl, h1, Mr.til hc hn]
  dsimp only
  rw [show (62 :: t) = ([62] : Txt) ++ t from rfl, Mr.wants]
  congr 1
  simp
end
end Go.Proofs.YtlflpbflpcmckaaDoor
namespace Go.Proofs.YtlflpbflpcmckaaDoor
open Go Go.Ez Go.RowKit Go.Lib
set_option linter.unusedSimpArgs false
set_option linter.unusedVariables false
/-- tokens behind a text that was read -/
def flO (out : List XTk) (run : Txt) : List XTk := if run = [] then out else out ++ [⟨3, [], [], run, []⟩]
section
variable {p t x : Txt} {out : List XTk} {op : List XFr} {run : Txt} {c d : UInt8} {n : Txt × Txt} {b : Txt} {q : XRd}
theorem Mr.flush (hr : run.length ≤ 8000) : (Mr p t out op run).flush = Mr p t (flO out run) op [] := by
  unfold XRd.flush flO
  show (if 8000 < run.length then _ else _) = _
  rw [if_neg (by omega)]
  show (if run ≠ [] then _ else _) = _
  by_cases h : run = []
  · rw [if_neg (fun hn => hn h), if_pos h]; rfl
  · rw [if_pos h, if_neg h]; rfl
theorem content_tag {u : Txt} (hn : NOk n) (hr : run.length ≤ 8000) : XRd.content decX signS (Mr p (60 :: (nmT n ++ u)) out op run) = XRd.element decX signS (Mr p (60 :: (nmT n ++ u)) (flO out run) op []) := by
  obtain ⟨c, r, hc, hb⟩ := nmT_head hn
  obtain ⟨h47, h62, h33, _, _⟩ := begs_no hb
  unfold XRd.content
  dsimp only
  rw [Mr.see0]
  dsimp only
  have e60 : ((60 : UInt8) ≠ 60) = False := eq_false (fun h => h rfl)
  simp only [e60, if_false]
  rw [hc, List.cons_append, Mr.see1]
  dsimp only
  rw [if_neg (fun h => h rfl), if_neg (fun h => h33 h.1), if_neg h33, if_neg h47, if_pos hb, Mr.flush hr]
theorem content_open {az : List ((Txt × Txt) × Txt)} {sp : Txt} {ats : List XAt} (hn : NOk n) (hr : run.length ≤ 8000) (ha : ∀ a ∈ az, AOk a) (hd : noDup [] az = true) (hop : op.length < 64) (hs : XRd.spaceV (frOf n az) n.1 op = some sp) (hat : attsP (frOf n az) op (az.map prOf) = some ats) :
    XRd.content decX signS (Mr p (60 :: (nmT n ++ (attsT az ++ 62 :: t))) out op run) = Mr (p ++ 60 :: (nmT n ++ (attsT az ++ [62]))) t (flO out run ++ [⟨1, sp, n.2, [], ats⟩]) (op ++ [frOf n az]) [] := by
  rw [content_tag hn hr, Mr.element hn ha hd hop hs hat]
theorem content_one {az : List ((Txt × Txt) × Txt)} {sp : Txt} {ats : List XAt} (hn : NOk n) (hr : run.length ≤ 8000) (ha : ∀ a ∈ az, AOk a) (hd : noDup [] az = true) (hop : op.length < 64) (hs : XRd.spaceV (frOf n az) n.1 op = some sp) (hat : attsP (frOf n az) op (az.map prOf) = some ats) :
    XRd.content decX signS (Mr p (60 :: (nmT n ++ (attsT az ++ 47 :: 62 :: t))) out op run) = Mr (p ++ 60 :: (nmT n ++ (attsT az ++ [47, 62]))) t (flO out run ++ [⟨1, sp, n.2, [], ats⟩] ++ [⟨2, sp, n.2, [], []⟩]) op [] := by
  rw [content_tag hn hr, Mr.element1 hn ha hd hop hs hat]
theorem content_close {f : XFr} {sp : Txt} (hn : NOk n) (h1 : f.pre = n.1) (h2 : f.name = n.2) (hr : run.length ≤ 8000) (hs : XRd.spaceV f f.pre op = some sp) :
    XRd.content decX signS (Mr p (60 :: 47 :: (nmT n ++ 62 :: t)) out (op ++ [f]) run) = Mr (p ++ 60 :: 47 :: (nmT n ++ [62])) t (flO out run ++ [⟨2, sp, n.2, [], []⟩]) op [] := by
  unfold XRd.content
  dsimp only
  rw [Mr.see0]
  dsimp only
  have e60 : ((60 : UInt8) ≠ 60) = False := eq_false (fun h => h rfl)
  simp only [e60, if_false]
  rw [Mr.see1]
  dsimp only
  rw [if_neg (fun h => h rfl), if_neg (fun h => absurd h.1 (by decide)), if_neg (by decide), if_pos rfl, Mr.flush hr]
  unfold XRd.end_
  dsimp only
  have hon : (Mr p (60 :: 47 :: (nmT n ++ 62 :: t)) (flO out run) (op ++ [f]) []).on 2 = Mr (p ++ [60, 47]) (nmT n ++ 62 :: t) (flO out run) (op ++ [f]) [] := Mr.on (x := [60, 47])
  rw [hon, Mr.full hn (.cons (by decide)) (.cons (by decide))]
  dsimp only
  have hl : (Mr (p ++ [60, 47]) (nmT n ++ 62 :: t) (flO out run) (op ++ [f]) []).op.getLastD default = f := by show (op ++ [f]).getLastD default = f; simp
  rw [hl, decide_eq_false (fun h => h.2 ⟨h1.symm, h2.symm⟩), show ∀ q : XRd, q.failIf false 4 = q from fun _ => rfl, Mr.blanks0 (.cons (by decide))]
  dsimp only
  rw [show (62 : UInt8) :: t = [62] ++ t from rfl, Mr.wants, if_pos (show (Mr _ _ _ _ _).e = 0 from rfl), Mr.close (by rw [XRd.spaceV_self]; exact hs)]
  unfold Mr
  simp [List.append_assoc, h2]
/-- steps within a document -/
def Stps (N : Nat) (r r' : XRd) : Prop := ∀ f, XRd.contents decX signS (f + N) r = XRd.contents decX signS f r'
theorem Stps.zero {r : XRd} : Stps 0 r r := fun f => rfl
theorem Stps.trans {N M : Nat} {r r' r'' : XRd} (h : Stps N r r') (h' : Stps M r' r'') : Stps (M + N) r r'' := fun f => by rw [← Nat.add_assoc, h, h']
theorem Stps.one {r r' : XRd} (he : r.e = 0) (ho : r.op ≠ []) (h : XRd.content decX signS r = r') : Stps 1 r r' := fun f => by
  show XRd.contents decX signS (f + 1) r = _
  conv => lhs; unfold XRd.contents
  rw [if_pos ⟨he, ho⟩, h]
/-- a text that is escaped -/
theorem Stps.text : ∀ (k : Nat) {s p : Txt} {run : Txt}, s.length ≤ k → cleanS s = true → op ≠ [] → ∃ N, N ≤ s.length ∧ Stps N (Mr p (escS s ++ t) out op run) (Mr (p ++ escS s) t out op (run ++ s))
  | k, s, p, run, hk, hc, ho => by
    by_cases hs : s = []
    · subst hs
      refine ⟨0, Nat.le_refl _, ?_⟩
      rw [List.append_nil, show p ++ escS [] = p from List.append_nil p]
      exact .zero
    · obtain ⟨x, s', hxs, hx, hc', hpart, _, c, r, he, h34, h60⟩ := esc_step hs hc
      have hxl := List.length_pos_iff.2 hx
      have hlen : s.length = x.length + s'.length := by rw [hxs, List.length_append]
      cases k with
      | zero => omega
      | succ k =>
        obtain ⟨N, hN, h2⟩ := Stps.text k (s := s') (p := p ++ escS x) (run := run ++ x) (by omega) hc' ho
        have h1 : Stps 1 (Mr p (escS s ++ t) out op run) (Mr (p ++ escS x) (escS s' ++ t) out op (run ++ x)) := by
          refine .one rfl ho ?_
          unfold XRd.content
          have hsee : (Mr p (escS s ++ t) out op run).see 0 = (c, Mr p (escS s ++ t) out op run) := by rw [he, List.cons_append]; exact Mr.see0
          dsimp only
          rw [hsee]
          dsimp only
          rw [if_pos h60, hpart]
          rfl
        refine ⟨N + 1, by omega, ?_⟩
        have := h1.trans h2
        have e1 : escS s = escS x ++ escS s' := by rw [hxs, escS_app]
        rw [List.append_assoc, ← e1, List.append_assoc, ← hxs] at this
        exact this
/-! ### whole documents -/
theorem front_plain {u : Txt} (h : d ≠ 63 ∧ d ≠ 33) : XRd.front decX ⟨60 :: d :: u, 0, 0, [], [], []⟩ = Mr [] (60 :: d :: u) [] [] [] := by
  have hr : (⟨60 :: d :: u, 0, 0, [], [], []⟩ : XRd) = Mr [] (60 :: d :: u) [] [] [] := rfl
  unfold XRd.front
  rw [hr]
  dsimp only
  have e1 : XRd.isPre [239, 187, 191] (60 :: d :: u) = false := by
    unfold XRd.isPre
    refine decide_eq_false fun e => ?_
    have := congrArg List.head? e
    simp at this
  have e2 : XRd.isPre [60, 63] (60 :: d :: u) = false := by
    unfold XRd.isPre
    refine decide_eq_false fun e => ?_
    simp at e
    exact h.1 e
  have e3 : XRd.isPre [60, 33] (60 :: d :: u) = false := by
    unfold XRd.isPre
    refine decide_eq_false fun e => ?_
    simp at e
    exact h.2 e
  rw [Mr.rest, e1]
  simp only [Bool.false_eq_true, if_false]
  rw [Mr.rest, e2]
  simp only [Bool.false_eq_true, if_false]
  unfold XRd.misc
  rw [if_neg (fun h => h rfl), Mr.blanks0 (.cons (by decide))]
  dsimp only
  rw [Mr.rest, e3, if_pos rfl]
/-- what is told of a document, if what stands ahead is passed -/
theorem tok_of {p1 u : Txt} {q4 : XRd} (hl : b.length ≤ 20000) (hf : XRd.front decX ⟨b, 0, 0, [], [], []⟩ = Mr p1 (60 :: c :: u) [] [] []) (hb : XRd.begs c = true) (hc : XRd.contents decX signS (b.length + 2) (XRd.element decX signS (Mr p1 (60 :: c :: u) [] [] [])) = q4) :
    tokX b = (if (((XRd.misc decX (b.length + 2) q4).failIf (decide ((XRd.misc decX (b.length + 2) q4).e = 0 ∧ (XRd.misc decX (b.length + 2) q4).at_ < (XRd.misc decX (b.length + 2) q4).s.length)) 4).e ≠ 0) then ([], ((XRd.misc decX (b.length + 2) q4).failIf (decide ((XRd.misc decX (b.length + 2) q4).e = 0 ∧ (XRd.misc decX (b.length + 2) q4).at_ < (XRd.misc decX (b.length + 2) q4).s.length)) 4).e)
      else (((XRd.misc decX (b.length + 2) q4).failIf (decide ((XRd.misc decX (b.length + 2) q4).e = 0 ∧ (XRd.misc decX (b.length + 2) q4).at_ < (XRd.misc decX (b.length + 2) q4).s.length)) 4).out, 0)) := by
  unfold tokX XRd.tokens
  rw [if_neg (by omega)]
  dsimp only
  rw [hf, Mr.see0]
  dsimp only
  rw [decide_eq_false (fun h => h.2 rfl), show ∀ q : XRd, q.failIf false 4 = q from fun _ => rfl, Mr.see1]
  dsimp only
  rw [hb, Bool.not_true, Bool.and_false, show ∀ q : XRd, q.failIf false 4 = q from fun _ => rfl, if_pos (show (Mr _ _ _ _ _).e = 0 from rfl), hc]
theorem tok_ok {p1 p4 u : Txt} (hl : b.length ≤ 20000) (hf : XRd.front decX ⟨b, 0, 0, [], [], []⟩ = Mr p1 (60 :: c :: u) [] [] []) (hb : XRd.begs c = true) (hc : XRd.contents decX signS (b.length + 2) (XRd.element decX signS (Mr p1 (60 :: c :: u) [] [] [])) = Mr p4 [] out op run) : tokX b = (out, 0) := by
  rw [tok_of hl hf hb hc]
  have hm : XRd.misc decX (b.length + 2) (Mr p4 [] out op run) = Mr p4 [] out op run := by
    unfold XRd.misc
    rw [if_neg (fun h => h rfl), Mr.blanks0 .nil]
    dsimp only
    rw [Mr.rest, if_pos (by decide)]
  have hlen : (Mr p4 [] out op run).s.length = p4.length := by show (p4 ++ []).length = _; simp
  rw [hm, decide_eq_false (fun h => Nat.lt_irrefl p4.length (Nat.lt_of_lt_of_eq h.2 hlen))]
  rw [if_neg (fun h => h rfl)]
  rfl
theorem tok_err {p1 u : Txt} (hl : b.length ≤ 20000) (hf : XRd.front decX ⟨b, 0, 0, [], [], []⟩ = Mr p1 (60 :: c :: u) [] [] []) (hb : XRd.begs c = true) {q4 : XRd} (hc : XRd.contents decX signS (b.length + 2) (XRd.element decX signS (Mr p1 (60 :: c :: u) [] [] [])) = q4) (he : q4.e ≠ 0) : tokX b = ([], q4.e) := by
  rw [tok_of hl hf hb hc]
  have hm : XRd.misc decX (b.length + 2) q4 = q4 := by unfold XRd.misc; rw [if_pos he]
  rw [hm, decide_eq_false (fun h => he h.1), show ∀ q : XRd, q.failIf false 4 = q from fun _ => rfl, if_pos he]
theorem contents_done {f : Nat} {r : XRd} (h : r.op = []) : XRd.contents decX signS f r = r := by
  cases f with
  | zero => rfl
  | succ f => unfold XRd.contents; rw [if_neg (fun hx => hx.2 h)]
theorem Stps.done {N F : Nat} {r r' : XRd} (h : Stps N r r') (hF : N ≤ F) (ho : r'.op = []) : XRd.contents decX signS F r = r' := by
  obtain ⟨f, rfl⟩ : ∃ f, F = f + N := ⟨F - N, by omega⟩
  rw [h, contents_done ho]
end
end Go.Proofs.YtlflpbflpcmckaaDoor
