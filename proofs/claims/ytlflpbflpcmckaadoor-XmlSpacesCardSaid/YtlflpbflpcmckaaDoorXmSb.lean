/-
  XML, plainly: whole documents that are written out; XmlSpaces.
-/
import Derived.Test.YtlflpbflpcmckaaDoorXmSa
namespace Go.Proofs.YtlflpbflpcmckaaDoor
open Go Go.Ez Go.RowKit Go.Lib
set_option linter.unusedSimpArgs false
set_option linter.unusedVariables false
/-- tokens behind a text that was read -/
def flO (out : List XTk) (run : Txt) : List XTk := if run = [] then out else out ++ [⟨3, [], [], run, []⟩]
section
variable {p t x : Txt} {out : List XTk} {op : List XFr} {run : Txt} {c d : UInt8} {n : Txt × Txt} {b : Txt} {q : XRd}
theorem Mr.flush (hr : run.length ≤ 8000) : (Mr p t out op run).flush = Mr p t (flO out run) op [] := by
  unfold XRd.flush flO
  show (if 8000 < run.length then _ else _) = _
  rw [if_neg (by omega)]
  show (if run ≠ [] then _ else _) = _
  by_cases h : run = []
  · rw [if_neg (fun hn => hn h), if_pos h]; rfl
  · rw [if_pos h, if_neg h]; rfl
theorem content_tag {u : Txt} (hn : NOk n) (hr : run.length ≤ 8000) : XRd.content decX signS (Mr p (60 :: (nmT n ++ u)) out op run) = XRd.element decX signS (Mr p (60 :: (nmT n ++ u)) (flO out run) op []) := by
  obtain ⟨c, r, hc, hb⟩ := nmT_head hn
  obtain ⟨h47, h62, h33, _, _⟩ := begs_no hb
  unfold XRd.content
  dsimp only
  rw [Mr.see0]
  dsimp only
  have e60 : ((60 : UInt8) ≠ 60) = False := eq_false (fun h => h rfl)
  simp only [e60, if_false]
  rw [hc, List.cons_append, Mr.see1]
  dsimp only
  rw [if_neg (fun h => h rfl), if_neg (fun h => h33 h.1), if_neg h33, if_neg h47, if_pos hb, Mr.flush hr]
theorem content_open {az : List ((Txt × Txt) × Txt)} {sp : Txt} {ats : List XAt} (hn : NOk n) (hr : run.length ≤ 8000) (ha : ∀ a ∈ az, AOk a) (hd : noDup [] az = true) (hop : op.length < 64) (hs : XRd.spaceV (frOf n az) n.1 op = some sp) (hat : attsP (frOf n az) op (az.map prOf) = some ats) :
    XRd.content decX signS (Mr p (60 :: (nmT n ++ (attsT az ++ 62 :: t))) out op run) = Mr (p ++ 60 :: (nmT n ++ (attsT az ++ [62]))) t (flO out run ++ [⟨1, sp, n.2, [], ats⟩]) (op ++ [frOf n az]) [] := by
  rw [content_tag hn hr, Mr.element hn ha hd hop hs hat]
theorem content_one {az : List ((Txt × Txt) × Txt)} {sp : Txt} {ats : List XAt} (hn : NOk n) (hr : run.length ≤ 8000) (ha : ∀ a ∈ az, AOk a) (hd : noDup [] az = true) (hop : op.length < 64) (hs : XRd.spaceV (frOf n az) n.1 op = some sp) (hat : attsP (frOf n az) op (az.map prOf) = some ats) :
    XRd.content decX signS (Mr p (60 :: (nmT n ++ (attsT az ++ 47 :: 62 :: t))) out op run) = Mr (p ++ 60 :: (nmT n ++ (attsT az ++ [47, 62]))) t (flO out run ++ [⟨1, sp, n.2, [], ats⟩] ++ [⟨2, sp, n.2, [], []⟩]) op [] := by
  rw [content_tag hn hr, Mr.element1 hn ha hd hop hs hat]
theorem content_close {f : XFr} {sp : Txt} (hn : NOk n) (h1 : f.pre = n.1) (h2 : f.name = n.2) (hr : run.length ≤ 8000) (hs : XRd.spaceV f f.pre op = some sp) :
    XRd.content decX signS (Mr p (60 :: 47 :: (nmT n ++ 62 :: t)) out (op ++ [f]) run) = Mr (p ++ 60 :: 47 :: (nmT n ++ [62])) t (flO out run ++ [⟨2, sp, n.2, [], []⟩]) op [] := by
  unfold XRd.content
  dsimp only
  rw [Mr.see0]
  dsimp only
  have e60 : ((60 : UInt8) ≠ 60) = False := eq_false (fun h => h rfl)
  simp only [e60, if_false]
  rw [Mr.see1]
  dsimp only
  rw [if_neg (fun h => h rfl), if_neg (fun h => absurd h.1 (by decide)), if_neg (by decide), if_pos rfl, Mr.flush hr]
  unfold XRd.end_
  dsimp only
  have hon : (Mr p (60 :: 47 :: (nmT n ++ 62 :: t)) (flO out run) (op ++ [f]) []).on 2 = Mr (p ++ [60, 47]) (nmT n ++ 62 :: t) (flO out run) (op ++ [f]) [] := Mr.on (x := [60, 47])
  rw [hon, Mr.full hn (.cons (by decide)) (.cons (by decide))]
  dsimp only
  have hl : (Mr (p ++ [60, 47]) (nmT n ++ 62 :: t) (flO out run) (op ++ [f]) []).op.getLastD default = f := by show (op ++ [f]).getLastD default = f; simp
  rw [hl, decide_eq_false (fun h => h.2 ⟨h1.symm, h2.symm⟩), show ∀ q : XRd, q.failIf false 4 = q from fun _ => rfl, Mr.blanks0 (.cons (by decide))]
  dsimp only
  rw [show (62 : UInt8) :: t = [62] ++ t from rfl, Mr.wants, if_pos (show (Mr _ _ _ _ _).e = 0 from rfl), Mr.close (by rw [XRd.spaceV_self]; exact hs)]
  unfold Mr
  simp [List.append_assoc, h2]
/-- steps within a document -/
def Stps (N : Nat) (r r' : XRd) : Prop := ∀ f, XRd.contents decX signS (f + N) r = XRd.contents decX signS f r'
theorem Stps.zero {r : XRd} : Stps 0 r r := fun f => rfl
theorem Stps.trans {N M : Nat} {r r' r'' : XRd} (h : Stps N r r') (h' : Stps M r' r'') : Stps (M + N) r r'' := fun f => by rw [← Nat.add_assoc, h, h']
theorem Stps.one {r r' : XRd} (he : r.e = 0) (ho : r.op ≠ []) (h : XRd.content decX signS r = r') : Stps 1 r r' := fun f => by
  show XRd.contents decX signS (f + 1) r = _
  conv => lhs; unfold XRd.contents
  rw [if_pos ⟨he, ho⟩, h]
/-- a text that is escaped -/
theorem Stps.text : ∀ (k : Nat) {s p : Txt} {run : Txt}, s.length ≤ k → cleanS s = true → op ≠ [] → ∃ N, N ≤ s.length ∧ Stps N (Mr p (escS s ++ t) out op run) (Mr (p ++ escS s) t out op (run ++ s))
  | k, s, p, run, hk, hc, ho => by
    by_cases hs : s = []
    · subst hs
      refine ⟨0, Nat.le_refl _, ?_⟩
      rw [List.append_nil, show p ++ escS [] = p from List.append_nil p]
      exact .zero
    · obtain ⟨x, s', hxs, hx, hc', hpart, _, c, r, he, h34, h60⟩ := esc_step hs hc
      have hxl := List.length_pos_iff.2 hx
      have hlen : s.length = x.length + s'.length := by rw [hxs, List.length_append]
      cases k with
      | zero => omega
      | succ k =>
        obtain ⟨N, hN, h2⟩ := Stps.text k (s := s') (p := p ++ escS x) (run := run ++ x) (by omega) hc' ho
        have h1 : Stps 1 (Mr p (escS s ++ t) out op run) (Mr (p ++ escS x) (escS s' ++ t) out op (run ++ x)) := by
          refine .one rfl ho ?_
          unfold XRd.content
          have hsee : (Mr p (escS s ++ t) out op run).see 0 = (c, Mr p (escS s ++ t) out op run) := by rw [he, List.cons_append]; exact Mr.see0
          dsimp only
          rw [hsee]
          dsimp only
          rw [if_pos h60, hpart]
          rfl
        refine ⟨N + 1, by omega, ?_⟩
        have := h1.trans h2
        have e1 : escS s = escS x ++ escS s' := by rw [hxs, escS_app]
        rw [List.append_assoc, ← e1, List.append_assoc, ← hxs] at this
        exact this
/-! ### whole documents -/
theorem front_plain {u : Txt} (h : d ≠ 63 ∧ d ≠ 33) : XRd.front decX ⟨60 :: d :: u, 0, 0, [], [], []⟩ = Mr [] (60 :: d :: u) [] [] [] := by
  have hr : (⟨60 :: d :: u, 0, 0, [], [], []⟩ : XRd) = Mr [] (60 :: d :: u) [] [] [] := rfl
  unfold XRd.front
  rw [hr]
  dsimp only
  have e1 : XRd.isPre [239, 187, 191] (60 :: d :: u) = false := by
    unfold XRd.isPre
    refine decide_eq_false fun e => ?_
    have := congrArg List.head? e
    simp at this
  have e2 : XRd.isPre [60, 63] (60 :: d :: u) = false := by
    unfold XRd.isPre
    refine decide_eq_false fun e => ?_
    simp at e
    exact h.1 e
  have e3 : XRd.isPre [60, 33] (60 :: d :: u) = false := by
    unfold XRd.isPre
    refine decide_eq_false fun e => ?_
    simp at e
    exact h.2 e
  rw [Mr.rest, e1]
  simp only [Bool.false_eq_true, if_false]
  rw [Mr.rest, e2]
  simp only [Bool.false_eq_true, if_false]
  unfold XRd.misc
  rw [if_neg (fun h => h rfl), Mr.blanks0 (.cons (by decide))]
  dsimp only
  rw [Mr.rest, e3, if_pos rfl]
/-- what is told of a document, if what stands ahead is passed -/
theorem tok_of {p1 u : Txt} {q4 : XRd} (hl : b.length ≤ 20000) (hf : XRd.front decX ⟨b, 0, 0, [], [], []⟩ = Mr p1 (60 :: c :: u) [] [] []) (hb : XRd.begs c = true) (hc : XRd.contents decX signS (b.length + 2) (XRd.element decX signS (Mr p1 (60 :: c :: u) [] [] [])) = q4) :
    tokX b = (if (((XRd.misc decX (b.length + 2) q4).failIf (decide ((XRd.misc decX (b.length + 2) q4).e = 0 ∧ (XRd.misc decX (b.length + 2) q4).at_ < (XRd.misc decX (b.length + 2) q4).s.length)) 4).e ≠ 0) then ([], ((XRd.misc decX (b.length + 2) q4).failIf (decide ((XRd.misc decX (b.length + 2) q4).e = 0 ∧ (XRd.misc decX (b.length + 2) q4).at_ < (XRd.misc decX (b.length + 2) q4).s.length)) 4).e)
      else (((XRd.misc decX (b.length + 2) q4).failIf (decide ((XRd.misc decX (b.length + 2) q4).e = 0 ∧ (XRd.misc decX (b.length + 2) q4).at_ < (XRd.misc decX (b.length + 2) q4).s.length)) 4).out, 0)) := by
  unfold tokX XRd.tokens
  rw [if_neg (by omega)]
  dsimp only
  rw [hf, Mr.see0]
  dsimp only
  rw [decide_eq_false (fun h => h.2 rfl), show ∀ q : XRd, q.failIf false 4 = q from fun _ => rfl, Mr.see1]
  dsimp only
  rw [hb, Bool.not_true, Bool.and_false, show ∀ q : XRd, q.failIf false 4 = q from fun _ => rfl, if_pos (show (Mr _ _ _ _ _).e = 0 from rfl), hc]
theorem tok_ok {p1 p4 u : Txt} (hl : b.length ≤ 20000) (hf : XRd.front decX ⟨b, 0, 0, [], [], []⟩ = Mr p1 (60 :: c :: u) [] [] []) (hb : XRd.begs c = true) (hc : XRd.contents decX signS (b.length + 2) (XRd.element decX signS (Mr p1 (60 :: c :: u) [] [] [])) = Mr p4 [] out op run) : tokX b = (out, 0) := by
  rw [tok_of hl hf hb hc]
  have hm : XRd.misc decX (b.length + 2) (Mr p4 [] out op run) = Mr p4 [] out op run := by
    unfold XRd.misc
    rw [if_neg (fun h => h rfl), Mr.blanks0 .nil]
    dsimp only
    rw [Mr.rest, if_pos (by decide)]
  have hlen : (Mr p4 [] out op run).s.length = p4.length := by show (p4 ++ []).length = _; simp
  rw [hm, decide_eq_false (fun h => Nat.lt_irrefl p4.length (Nat.lt_of_lt_of_eq h.2 hlen))]
  rw [if_neg (fun h => h rfl)]
  rfl
theorem tok_err {p1 u : Txt} (hl : b.length ≤ 20000) (hf : XRd.front decX ⟨b, 0, 0, [], [], []⟩ = Mr p1 (60 :: c :: u) [] [] []) (hb : XRd.begs c = true) {q4 : XRd} (hc : XRd.contents decX signS (b.length + 2) (XRd.element decX signS (Mr p1 (60 :: c :: u) [] [] [])) = q4) (he : q4.e ≠ 0) : tokX b = ([], q4.e) := by
  rw [tok_of hl hf hb hc]
  have hm : XRd.misc decX (b.length + 2) q4 = q4 := by unfold XRd.misc; rw [if_pos he]
  rw [hm, decide_eq_false (fun h => he h.1), show ∀ q : XRd, q.failIf false 4 = q from fun _ => rfl, if_pos he]
theorem contents_done {f : Nat} {r : XRd} (h : r.op = []) : XRd.contents decX signS f r = r := by
  cases f with
  | zero => rfl
  | succ f => unfold XRd.contents; rw [if_neg (fun hx => hx.2 h)]
theorem Stps.done {N F : Nat} {r r' : XRd} (h : Stps N r r') (hF : N ≤ F) (ho : r'.op = []) : XRd.contents decX signS F r = r' := by
  obtain ⟨f, rfl⟩ : ∃ f, F = f + N := ⟨F - N, by omega⟩
  rw [h, contents_done ho]
end
end Go.Proofs.YtlflpbflpcmckaaDoor
