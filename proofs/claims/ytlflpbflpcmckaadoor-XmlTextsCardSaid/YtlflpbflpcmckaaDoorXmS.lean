/-
  XML, plainly: documents that are written out are read as they were meant.
-/
import Derived.Test.YtlflpbflpcmckaaDoorXmX
namespace Go.Proofs.YtlflpbflpcmckaaDoor
open Go Go.Ez Go.RowKit Go.Lib
set_option linter.unusedSimpArgs false
set_option linter.unusedVariables false
/-- a reader that stands behind p, ahead of t -/
def Mr (p t : Txt) (out : List XTk) (op : List XFr) (run : Txt) : XRd := ⟨p ++ t, p.length, 0, out, op, run⟩
section
variable {p t x : Txt} {out : List XTk} {op : List XFr} {run : Txt} {c d : UInt8} {n : Txt × Txt}
theorem Mr.rest : (Mr p t out op run).rest = t := by
  unfold Mr XRd.rest
  exact List.drop_left
theorem Mr.on : (Mr p (x ++ t) out op run).on x.length = Mr (p ++ x) t out op run := by
  unfold Mr XRd.on
  simp [List.append_assoc]
theorem Mr.on1 : (Mr p (c :: t) out op run).on 1 = Mr (p ++ [c]) t out op run := Mr.on (x := [c])
theorem Mr.at : (Mr p (c :: t) out op run).s[(Mr p (c :: t) out op run).at_]? = some c := by
  show (p ++ c :: t)[p.length]? = _
  rw [List.getElem?_append_right (Nat.le_refl _), Nat.sub_self]; rfl
theorem Mr.see0 : (Mr p (c :: t) out op run).see 0 = (c, Mr p (c :: t) out op run) := XRd.see_some Mr.at
theorem Mr.see1 : (Mr p (c :: d :: t) out op run).see 1 = (d, Mr p (c :: d :: t) out op run) := by
  refine XRd.see_some ?_
  show (p ++ c :: d :: t)[p.length + 1]? = _
  rw [List.getElem?_append_right (by omega), Nat.add_sub_cancel_left]; rfl
theorem Mr.see2 {e : UInt8} : (Mr p (c :: d :: e :: t) out op run).see 2 = (e, Mr p (c :: d :: e :: t) out op run) := by
  refine XRd.see_some ?_
  show (p ++ c :: d :: e :: t)[p.length + 2]? = _
  rw [List.getElem?_append_right (by omega), Nat.add_sub_cancel_left]; rfl
theorem Mr.wants : ∀ {x p : Txt}, XRd.wants x (Mr p (x ++ t) out op run) = Mr (p ++ x) t out op run
  | [], p => by rw [List.append_nil]; rfl
  | c :: x, p => by
    unfold XRd.wants
    rw [if_pos (show (Mr p (c :: x ++ t) out op run).e = 0 from rfl)]
    rw [List.cons_append, Mr.see0]
    dsimp only
    rw [decide_eq_false (by simp)]
    show XRd.wants x ((Mr p (c :: (x ++ t)) out op run).on 1) = _
    rw [Mr.on1, Mr.wants (x := x), List.append_assoc]; rfl
/-- no sign of a kind at the front -/
def Stops (f : UInt8 → Bool) (t : Txt) : Prop := ∀ c r, t = c :: r → f c = false
theorem Stops.cons {f : UInt8 → Bool} (h : f c = false) : Stops f (c :: t) := fun _ _ e => by cases e; exact h
theorem Stops.nil {f : UInt8 → Bool} : Stops f [] := fun _ _ e => by cases e
theorem tw_all {f : UInt8 → Bool} (hx : ∀ c ∈ x, f c = true) (ht : Stops f t) : (x ++ t).takeWhile f = x := by
  induction x with
  | nil =>
    cases t with
    | nil => rfl
    | cons c r => rw [List.nil_append, List.takeWhile_cons, ht c r rfl]; rfl
  | cons c x ih =>
    rw [List.cons_append, List.takeWhile_cons, hx c (by simp)]
    simp [ih fun d hd => hx d (by simp [hd])]
theorem Mr.blanks (hx : ∀ c ∈ x, XRd.isBl c = true) (ht : Stops XRd.isBl t) : (Mr p (x ++ t) out op run).blanks = (decide (0 < x.length), Mr (p ++ x) t out op run) := by
  unfold XRd.blanks
  rw [Mr.rest, tw_all hx ht, Mr.on]
theorem Mr.blanks0 (ht : Stops XRd.isBl t) : (Mr p t out op run).blanks = (false, Mr p t out op run) := by
  have := Mr.blanks (p := p) (x := []) (out := out) (op := op) (run := run) (by simp) ht
  rw [List.nil_append, List.append_nil] at this
  exact this
/-- a name without a prefix -/
structure NmOk (x : Txt) : Prop where
  head : ∃ c r, x = c :: r ∧ XRd.begs c = true
  all : ∀ c ∈ x, XRd.goes c = true
theorem Mr.name (hx : NmOk x) (ht : Stops XRd.goes t) : (Mr p (x ++ t) out op run).nameOf = (x, Mr (p ++ x) t out op run) := by
  obtain ⟨⟨c, r, rfl, hc⟩, ha⟩ := hx
  unfold XRd.nameOf
  dsimp only
  rw [Mr.rest, tw_all ha ht, List.cons_append, Mr.see0]
  dsimp only
  rw [hc, Bool.not_true, Bool.and_false]
  show (_, (Mr p (c :: r ++ t) out op run).on (c :: r).length) = _
  rw [Mr.on]
/-- a name as it is written -/
def nmT (n : Txt × Txt) : Txt := if n.1 = [] then n.2 else n.1 ++ 58 :: n.2
structure NOk (n : Txt × Txt) : Prop where
  pre : n.1 = [] ∨ NmOk n.1
  name : NmOk n.2
theorem goes58 : XRd.goes 58 = false := by decide
theorem Mr.full (hn : NOk n) (ht : Stops XRd.goes t) (h58 : Stops (fun c => c == 58) t) : (Mr p (nmT n ++ t) out op run).full = (n, Mr (p ++ nmT n) t out op run) := by
  unfold XRd.full nmT
  obtain ⟨a, b⟩ := n
  dsimp only
  by_cases ha : a = []
  · subst ha
    rw [if_pos rfl, Mr.name hn.name ht]
    dsimp only
    rw [if_pos]
    refine .inr fun e => ?_
    cases t with
    | nil =>
      have : (Mr (p ++ b) [] out op run).s[(Mr (p ++ b) [] out op run).at_]? = none := List.getElem?_eq_none (by show (p ++ b ++ []).length ≤ (p ++ b).length; simp)
      rw [this] at e; cases e
    | cons c r =>
      rw [Mr.at] at e
      cases e
      have := h58 58 r rfl
      cases this
  · rw [if_neg ha, List.append_assoc, List.cons_append, Mr.name (hn.pre.resolve_left ha) (.cons goes58)]
    dsimp only
    rw [if_neg, Mr.on1, Mr.name hn.name ht]
    · dsimp only
      rw [show p ++ a ++ [58] ++ b = p ++ (a ++ 58 :: b) by simp]
    · rintro (e | e)
      · exact e rfl
      · exact e Mr.at
/-! ### references, signs -/
theorem ref_hit {rest : Txt} {l : List (Txt × Txt)} {b : Bool} {n : Txt × Txt} {r : XRd} (h : XRd.isPre n.1 rest = true) : XRd.refGo rest (n :: l) b r = (n.2, r.on n.1.length) := by
  conv => lhs; unfold XRd.refGo
  rw [h]; rfl
theorem Mr.part_lt : XRd.part decX signS (Mr p (38 :: 108 :: 116 :: 59 :: t) out op run) = ([60], Mr (p ++ [38, 108, 116, 59]) t out op run) := by
  unfold XRd.part
  rw [Mr.see0]
  dsimp only
  rw [if_pos rfl, Mr.on1]
  unfold XRd.reference
  rw [Mr.rest, if_neg (by simp [XRd.isPre])]
  unfold XRd.refNames
  rw [ref_hit (by simp [XRd.isPre])]
  refine Prod.ext rfl ?_
  dsimp only
  rw [show p ++ [38, 108, 116, 59] = p ++ [38] ++ [108, 116, 59] by simp]
  exact Mr.on (x := [108, 116, 59])
theorem Mr.part_gt : XRd.part decX signS (Mr p (38 :: 103 :: 116 :: 59 :: t) out op run) = ([62], Mr (p ++ [38, 103, 116, 59]) t out op run) := by
  unfold XRd.part
  rw [Mr.see0]
  dsimp only
  rw [if_pos rfl, Mr.on1]
  unfold XRd.reference
  rw [Mr.rest, if_neg (by simp [XRd.isPre])]
  unfold XRd.refNames
  rw [ref_short (by simp [XRd.isPre])]
  rw [ref_hit (by simp [XRd.isPre])]
  refine Prod.ext rfl ?_
  dsimp only
  rw [show p ++ [38, 103, 116, 59] = p ++ [38] ++ [103, 116, 59] by simp]
  exact Mr.on (x := [103, 116, 59])
theorem Mr.part_amp : XRd.part decX signS (Mr p (38 :: 97 :: 109 :: 112 :: 59 :: t) out op run) = ([38], Mr (p ++ [38, 97, 109, 112, 59]) t out op run) := by
  unfold XRd.part
  rw [Mr.see0]
  dsimp only
  rw [if_pos rfl, Mr.on1]
  unfold XRd.reference
  rw [Mr.rest, if_neg (by simp [XRd.isPre])]
  unfold XRd.refNames
  rw [ref_short (by simp [XRd.isPre]), ref_short (by simp [XRd.isPre])]
  rw [ref_hit (by simp [XRd.isPre])]
  refine Prod.ext rfl ?_
  dsimp only
  rw [show p ++ [38, 97, 109, 112, 59] = p ++ [38] ++ [97, 109, 112, 59] by simp]
  exact Mr.on (x := [97, 109, 112, 59])
theorem Mr.part_quot : XRd.part decX signS (Mr p (38 :: 113 :: 117 :: 111 :: 116 :: 59 :: t) out op run) = ([34], Mr (p ++ [38, 113, 117, 111, 116, 59]) t out op run) := by
  unfold XRd.part
  rw [Mr.see0]
  dsimp only
  rw [if_pos rfl, Mr.on1]
  unfold XRd.reference
  rw [Mr.rest, if_neg (by simp [XRd.isPre])]
  unfold XRd.refNames
  rw [ref_short (by simp [XRd.isPre]), ref_short (by simp [XRd.isPre]), ref_short (by simp [XRd.isPre])]
  rw [ref_hit (by simp [XRd.isPre])]
  refine Prod.ext rfl ?_
  dsimp only
  rw [show p ++ [38, 113, 117, 111, 116, 59] = p ++ [38] ++ [113, 117, 111, 116, 59] by simp]
  exact Mr.on (x := [113, 117, 111, 116, 59])
theorem Mr.sign (hx : x ≠ []) (hd : decX (x ++ t) = ((decX (x ++ t)).1, x.length)) (hg : XRd.good (decX (x ++ t)).1 = true) (hb : ¬ ((decX (x ++ t)).1 = 65533 ∧ x.length < 2)) : (Mr p (x ++ t) out op run).sign decX = (x, Mr (p ++ x) t out op run) := by
  have h2 : (decX (x ++ t)).2 = x.length := by rw [hd]
  obtain ⟨c, r, rfl⟩ : ∃ c r, x = c :: r := by
    cases x with
    | nil => exact absurd rfl hx
    | cons c r => exact ⟨c, r, rfl⟩
  unfold XRd.sign
  rw [List.cons_append, Mr.see0]
  dsimp only
  rw [if_neg (fun h => h rfl), Mr.rest, ← List.cons_append, h2, if_neg (by rintro (a | a); rw [hg] at a; cases a; exact hb a), Mr.on, List.take_left]
/-- what a text's first sign is, and what is read of it -/
theorem esc_step {s : Txt} (hne : s ≠ []) (hc : cleanS s = true) : ∃ x s', s = x ++ s' ∧ x ≠ [] ∧ cleanS s' = true ∧
    (∀ (p t : Txt) (out : List XTk) (op : List XFr) (run : Txt), XRd.part decX signS (Mr p (escS s ++ t) out op run) = (x, Mr (p ++ escS x) (escS s' ++ t) out op run)) ∧
    (∀ (p t : Txt) (out : List XTk) (op : List XFr) (run : Txt), (Mr p (s ++ t) out op run).sign decX = (x, Mr (p ++ x) (s' ++ t) out op run)) ∧
    ∃ c r, escS s = c :: r ∧ c ≠ 34 ∧ c ≠ 60 := by
  unfold cleanS at hc
  rw [Bool.and_eq_true] at hc
  obtain ⟨hall, hv⟩ := hc
  obtain ⟨hg, hv'⟩ := valid_next hne hv
  have hdp : ∀ r, decodeL (s.take (decodeL s).2 ++ r) = decodeL s := fun r => decode_prefix hne hg
  have hst : s = s.take (decodeL s).2 ++ s.drop (decodeL s).2 := (List.take_append_drop _ _).symm
  have hcl' : cleanS (s.drop (decodeL s).2) = true := by
    unfold cleanS
    rw [Bool.and_eq_true]
    exact ⟨List.all_eq_true.2 fun c hc => List.all_eq_true.1 hall c (List.mem_of_mem_drop hc), hv'⟩
  rcases sign_cases hne hg with ⟨c, r, hcr, hlow, hd⟩ | ⟨g1, g2, g3, g4, g5, g6, g7⟩
  · subst hcr
    rw [hd] at hcl' hdp
    simp only [List.take_succ_cons, List.take_zero, List.drop_succ_cons, List.drop_zero] at hcl' hdp
    have hok := List.all_eq_true.1 hall c (by simp)
    have hgood : XRd.good (c.toNat : Int) = true := by
      unfold XRd.good
      refine decide_eq_true ?_
      rw [Bool.or_eq_true, decide_eq_true_eq] at hok
      rcases hok with h | h
      · left; omega
      · unfold XRd.isBl at h
        simp only [Bool.or_eq_true, beq_iff_eq] at h
        rcases h with ((h | h) | h) | h <;> subst h <;> decide
    have hsg : ∀ (p t : Txt) (out : List XTk) (op : List XFr) (run : Txt), (Mr p ([c] ++ t) out op run).sign decX = ([c], Mr (p ++ [c]) t out op run) := fun p t out op run => by
      have hdd : decX ([c] ++ t) = ((c.toNat : Int), 1) := by
        unfold decX
        rw [show [c] ++ t = c :: t from rfl, dec_ascii hlow]
      refine Mr.sign (by simp) (by rw [hdd]; rfl) (by rw [hdd]; exact hgood) (by rw [hdd]; rintro ⟨a, _⟩; simp only at a; omega)
    refine ⟨[c], r, rfl, by simp, hcl', fun p t out op run => ?_, fun p t out op run => hsg p (r ++ t) out op run, ?_⟩
    · have e : escS (c :: r) = escB c ++ escS r := rfl
      have e1 : escS [c] = escB c := by simp [escS]
      rw [e, e1, List.append_assoc]
      generalize escS r ++ t = u
      unfold escB
      split
      · rename_i h; subst h; exact Mr.part_lt
      · split
        · rename_i h; subst h; exact Mr.part_gt
        · split
          · rename_i h; subst h; exact Mr.part_amp
          · rename_i h38
            split
            · rename_i h; subst h; exact Mr.part_quot
            · unfold XRd.part
              rw [show [c] ++ u = c :: u from rfl, Mr.see0]
              dsimp only
              rw [if_neg h38]
              exact hsg p u out op run
    · have e : escS (c :: r) = escB c ++ escS r := rfl
      rw [e]
      unfold escB
      split
      · exact ⟨38, _, rfl, by decide, by decide⟩
      · rename_i h60
        split
        · exact ⟨38, _, rfl, by decide, by decide⟩
        · split
          · exact ⟨38, _, rfl, by decide, by decide⟩
          · split
            · exact ⟨38, _, rfl, by decide, by decide⟩
            · rename_i h34
              exact ⟨c, _, rfl, h34, h60⟩
  · generalize hn : (decodeL s).2 = n at *
    have hxl : (s.take n).length = n := by rw [List.length_take]; omega
    have hesc : ∀ y : Txt, (∀ b ∈ y, 128 ≤ b.toNat) → escS y = y := by
      intro y
      induction y with
      | nil => intro _; rfl
      | cons b y ih =>
        intro hy
        have hb := hy b (by simp)
        have e : escS (b :: y) = escB b ++ escS y := rfl
        rw [e, ih fun d hd => hy d (by simp [hd])]
        unfold escB
        rw [if_neg (fun h => by subst h; revert hb; decide), if_neg (fun h => by subst h; revert hb; decide), if_neg (fun h => by subst h; revert hb; decide), if_neg (fun h => by subst h; revert hb; decide)]
        rfl
    obtain ⟨b0, y, hby⟩ : ∃ b y, s.take n = b :: y := by
      cases hx : s.take n with
      | nil => rw [hx] at hxl; simp at hxl; omega
      | cons b y => exact ⟨b, y, rfl⟩
    have hb0 : 128 ≤ b0.toNat := g6 b0 (by rw [hby]; simp)
    have hsg : ∀ (p t : Txt) (out : List XTk) (op : List XFr) (run : Txt), (Mr p (s.take n ++ t) out op run).sign decX = (s.take n, Mr (p ++ s.take n) t out op run) := fun p t out op run => by
      have hdd : decX (s.take n ++ t) = (((decodeL s).1 : Int), n) := by
        unfold decX
        rw [hdp, hn]
      refine Mr.sign (by rw [hby]; simp) (by rw [hdd, hxl]) (by rw [hdd]; unfold XRd.good; exact decide_eq_true (by left; simp only; omega)) (by rw [hxl]; omega)
    refine ⟨s.take n, s.drop n, hst, by rw [hby]; simp, hcl', fun p t out op run => ?_, fun p t out op run => ?_, ?_⟩
    · have e : escS s = s.take n ++ escS (s.drop n) := by
        conv => lhs; rw [hst]
        rw [escS_app, hesc _ g6]
      rw [e, hesc _ g6, List.append_assoc]
      generalize escS (s.drop n) ++ t = u
      unfold XRd.part
      have hs0 : (Mr p (s.take n ++ u) out op run).see 0 = (b0, Mr p (s.take n ++ u) out op run) := by
        rw [hby, List.cons_append]; exact Mr.see0
      rw [hs0]
      dsimp only
      rw [if_neg (fun h => by subst h; revert hb0; decide)]
      exact hsg p u out op run
    · conv => lhs; rw [hst]
      rw [List.append_assoc]
      exact hsg p (s.drop n ++ t) out op run
    · have e : escS s = s.take n ++ escS (s.drop n) := by
        conv => lhs; rw [hst]
        rw [escS_app, hesc _ g6]
      rw [e, hby, List.cons_append]
      exact ⟨b0, _, rfl, fun h => by subst h; revert hb0; decide, fun h => by subst h; revert hb0; decide⟩
end
end Go.Proofs.YtlflpbflpcmckaaDoor
