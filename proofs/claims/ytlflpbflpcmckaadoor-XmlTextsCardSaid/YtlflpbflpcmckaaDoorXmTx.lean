/-
  XmlTexts: what the document says, plainly.
-/
import Derived.Test.YtlflpbflpcmckaaDoorXmPn
namespace Go.Proofs.YtlflpbflpcmckaaDoor
open Go Go.Ez Go.RowKit Go.Lib
set_option linter.unusedSimpArgs false
set_option linter.unusedVariables false
section
variable {p t x e : Txt} {out : List XTk} {op : List XFr} {run : Txt} {s : Txt} {b : Txt}
/-! ### wrapped deep -/
abbrev nX : Txt × Txt := ([], [120])
abbrev fX : XFr := ⟨[], [120], []⟩
def opT (d : Nat) : Txt := (List.replicate d ([60, 120, 62] : Txt)).flatten
def clT (d : Nat) : Txt := (List.replicate d ([60, 47, 120, 62] : Txt)).flatten
abbrev tkO : XTk := ⟨1, [], [120], [], []⟩
abbrev tkC : XTk := ⟨2, [], [120], [], []⟩
theorem opT_succ (d : Nat) : opT (d + 1) = [60, 120, 62] ++ opT d := by simp [opT, List.replicate_succ]
theorem clT_succ (d : Nat) : clT (d + 1) = [60, 47, 120, 62] ++ clT d := by simp [clT, List.replicate_succ]
theorem opT_snoc (d : Nat) : opT (d + 1) = opT d ++ [60, 120, 62] := by simp [opT, List.replicate_succ']
theorem clT_snoc (d : Nat) : clT (d + 1) = clT d ++ [60, 47, 120, 62] := by simp [clT, List.replicate_succ']
theorem opT_len (d : Nat) : (opT d).length = 3 * d := by
  induction d with
  | zero => rfl
  | succ d ih => rw [opT_succ, List.length_append, ih]; simp; omega
theorem clT_len (d : Nat) : (clT d).length = 4 * d := by
  induction d with
  | zero => rfl
  | succ d ih => rw [clT_succ, List.length_append, ih]; simp; omega
theorem near_rep : ∀ k, XRd.near [] (List.replicate k fX) = none
  | 0 => rfl
  | k + 1 => by
    rw [List.replicate_succ]
    unfold XRd.near
    exact near_rep k
theorem space_rep (k : Nat) : XRd.spaceV fX [] (List.replicate k fX) = some [] := by
  unfold XRd.spaceV
  rw [if_neg (by decide)]
  show (match XRd.near [] (List.replicate k fX).reverse with | some s => some s | none => if ([] : Txt) ≠ [] then none else some []) = _
  rw [List.reverse_replicate, near_rep]
  rfl
theorem opens : ∀ (d k : Nat) {p u : Txt} {out : List XTk}, 1 ≤ k → k + d ≤ 64 → Stps d (Mr p (opT d ++ u) out (List.replicate k fX) []) (Mr (p ++ opT d) u (out ++ List.replicate d tkO) (List.replicate (k + d) fX) [])
  | 0, k, p, u, out, _, _ => by
    rw [show opT 0 ++ u = u from rfl, show p ++ opT 0 = p from List.append_nil p, List.replicate_zero, List.append_nil]
    exact .zero
  | d + 1, k, p, u, out, h1, h2 => by
    have h3 : Stps 1 (Mr p (60 :: (nmT nX ++ (attsT [] ++ 62 :: (opT d ++ u)))) out (List.replicate k fX) []) _ :=
      Stps.one rfl (by show List.replicate k fX ≠ []; intro e; have := congrArg List.length e; simp at this; omega) (content_open (n := nX) (az := []) (sp := []) (ats := []) (nOk (by decide)) (by decide) (by intro x hx; simp at hx) rfl (by rw [List.length_replicate]; omega) (space_rep k) rfl)
    have h4 := opens d (k + 1) (p := p ++ 60 :: (nmT nX ++ (attsT [] ++ [62]))) (u := u) (out := flO out [] ++ [tkO]) (by omega) (by omega)
    rw [List.replicate_succ'] at h4
    have := h3.trans h4
    have e1 : 60 :: (nmT nX ++ (attsT [] ++ 62 :: (opT d ++ u))) = opT (d + 1) ++ u := by rw [opT_succ]; rfl
    have e2 : p ++ 60 :: (nmT nX ++ (attsT [] ++ [62])) ++ opT d = p ++ opT (d + 1) := by rw [opT_succ, List.append_assoc]; rfl
    have e3 : flO out [] ++ [tkO] ++ List.replicate d tkO = out ++ List.replicate (d + 1) tkO := by rw [List.replicate_succ, List.append_assoc]; rfl
    rw [e1, e2, e3, show k + 1 + d = k + (d + 1) by omega] at this
    exact this
theorem closes : ∀ (d : Nat) {p u : Txt} {out : List XTk} {run : Txt}, run.length ≤ 8000 → Stps (d + 1) (Mr p (clT (d + 1) ++ u) out (List.replicate (d + 1) fX) run) (Mr (p ++ clT (d + 1)) u (flO out run ++ List.replicate (d + 1) tkC) [] [])
  | d, p, u, out, run, hr => by
    have h3 : Stps 1 (Mr p (60 :: 47 :: (nmT nX ++ 62 :: (clT d ++ u))) out (List.replicate d fX ++ [fX]) run) _ :=
      Stps.one rfl (by show List.replicate d fX ++ [fX] ≠ []; simp) (content_close (n := nX) (f := fX) (sp := []) (nOk (by decide)) rfl rfl hr (space_rep d))
    have e1 : 60 :: 47 :: (nmT nX ++ 62 :: (clT d ++ u)) = clT (d + 1) ++ u := by rw [clT_succ]; rfl
    have e2 : p ++ 60 :: 47 :: (nmT nX ++ [62]) ++ clT d = p ++ clT (d + 1) := by rw [clT_succ, List.append_assoc]; rfl
    rw [e1, ← List.replicate_succ'] at h3
    cases d with
    | zero =>
      have e0 : p ++ 60 :: 47 :: (nmT nX ++ [62]) = p ++ clT 1 := by rw [clT_succ]; rfl
      rw [e0] at h3
      exact h3
    | succ d =>
      have h4 := closes d (p := p ++ 60 :: 47 :: (nmT nX ++ [62])) (u := u) (out := flO out run ++ [tkC]) (run := []) (by simp)
      have := h3.trans h4
      have e3 : flO (flO out run ++ [tkC]) [] ++ List.replicate (d + 1) tkC = flO out run ++ List.replicate (d + 2) tkC := by show flO out run ++ [tkC] ++ _ = _; rw [List.replicate_succ (n := d + 1), List.append_assoc]; rfl
      rw [e2, e3] at this
      exact this
/-! ### the two documents -/
def docQ (d : Nat) (s : Txt) : Txt := opT d ++ (escS s ++ clT d)
theorem docQ_len (d : Nat) (s : Txt) : (docQ d s).length = 7 * d + (escS s).length := by
  unfold docQ
  rw [List.length_append, List.length_append, opT_len, clT_len]; omega
theorem docQ_head (d : Nat) (s : Txt) : docQ (d + 1) s = 60 :: (nmT nX ++ (attsT [] ++ 62 :: (opT d ++ (escS s ++ clT (d + 1))))) := by
  unfold docQ
  rw [opT_succ]; rfl
theorem elem_x {u : Txt} : XRd.element decX signS (Mr [] (60 :: (nmT nX ++ (attsT [] ++ 62 :: u))) [] [] []) = Mr [60, 120, 62] u [tkO] [fX] [] := by
  have := Mr.element (p := []) (t := u) (out := []) (op := []) (run := []) (n := nX) (az := []) (sp := []) (ats := []) (nOk (by decide)) (by intro x hx; simp at hx) (by rfl) (by decide) (by rfl) (by rfl)
  exact this
def toksQ (d : Nat) (s : Txt) : List XTk := List.replicate d tkO ++ [⟨3, [], [], s, []⟩] ++ List.replicate d tkC
theorem tok_q {d : Nat} (h1 : 1 ≤ d) (h2 : d ≤ 64) (hl : (docQ d s).length ≤ 20000) (hs : s ≠ []) (hc : cleanS s = true) (hs2 : s.length ≤ 8000) : tokX (docQ d s) = (toksQ d s, 0) := by
  obtain ⟨d, rfl⟩ : ∃ g, d = g + 1 := ⟨d - 1, by omega⟩
  have hlen := docQ_len (d + 1) s
  have hel := (escS_len s).1
  have hfront : XRd.front decX ⟨docQ (d + 1) s, 0, 0, [], [], []⟩ = Mr [] (docQ (d + 1) s) [] [] [] := by
    rw [docQ_head]; exact front_plain (d := 120) (by decide)
  suffices key : ∃ p4, XRd.contents decX signS ((docQ (d + 1) s).length + 2) (XRd.element decX signS (Mr [] (docQ (d + 1) s) [] [] [])) = Mr p4 [] (toksQ (d + 1) s) [] [] by
    obtain ⟨p4, key⟩ := key
    rw [docQ_head] at hl hfront key ⊢
    exact tok_ok (p1 := []) (c := 120) hl hfront (by decide) key
  clear hfront
  generalize (docQ (d + 1) s).length = N at *
  rw [docQ_head, elem_x]
  have o1 := opens d 1 (p := [60, 120, 62]) (u := escS s ++ clT (d + 1)) (out := [tkO]) (Nat.le_refl _) (by omega)
  obtain ⟨M, hM, o2⟩ := Stps.text (op := List.replicate (1 + d) fX) (out := [tkO] ++ List.replicate d tkO) (t := clT (d + 1)) s.length (s := s) (p := [60, 120, 62] ++ opT d) (run := []) (Nat.le_refl _) hc (by intro e; have := congrArg List.length e; rw [List.length_replicate, List.length_nil] at this; omega)
  have o3 := closes d (p := [60, 120, 62] ++ opT d ++ escS s) (u := []) (out := [tkO] ++ List.replicate d tkO) (run := [] ++ s) (by simpa using hs2)
  rw [List.append_nil, show d + 1 = 1 + d by omega] at o3
  rw [show d + 1 = 1 + d by omega] at o1 o2
  have o := (o1.trans o2).trans o3
  have hfl : flO ([tkO] ++ List.replicate d tkO) ([] ++ s) ++ List.replicate (1 + d) tkC = toksQ (d + 1) s := by
    unfold flO toksQ
    rw [List.nil_append, if_neg hs, show 1 + d = d + 1 by omega, List.replicate_succ (n := d) (a := tkO)]
    rfl
  rw [hfl, show List.replicate 1 fX = [fX] from rfl, show 1 + d = d + 1 by omega] at o
  refine ⟨_, Stps.done (N := (d + 1) + (M + d)) o (by omega) rfl⟩
theorem tok_deep {d : Nat} (h1 : 65 ≤ d) (hl : (docQ d s).length ≤ 20000) : (tokX (docQ d s)).2 = 10 := by
  obtain ⟨d, rfl⟩ : ∃ g, d = g + 1 := ⟨d - 1, by omega⟩
  have hfront : XRd.front decX ⟨docQ (d + 1) s, 0, 0, [], [], []⟩ = Mr [] (docQ (d + 1) s) [] [] [] := by
    rw [docQ_head]; exact front_plain (d := 120) (by decide)
  obtain ⟨e, rfl⟩ : ∃ e, d = e + 64 := ⟨d - 64, by omega⟩
  have hlen := docQ_len (e + 64 + 1) s
  suffices key : ∃ q4 : XRd, q4.e = 10 ∧ XRd.contents decX signS ((docQ (e + 64 + 1) s).length + 2) (XRd.element decX signS (Mr [] (docQ (e + 64 + 1) s) [] [] [])) = q4 by
    obtain ⟨q4, he, key⟩ := key
    rw [docQ_head] at hl hfront key ⊢
    rw [tok_err (p1 := []) (c := 120) hl hfront (by decide) key (by rw [he]; decide)]
    exact he
  clear hfront
  generalize (docQ (e + 64 + 1) s).length = N at *
  rw [docQ_head, elem_x]
  generalize hu : escS s ++ clT (e + 64 + 1) = u
  have o1 := opens 63 1 (p := [60, 120, 62]) (u := 60 :: (nmT nX ++ (62 :: (opT e ++ u)))) (out := [tkO]) (Nat.le_refl _) (by decide)
  have hop : opT (e + 64) ++ u = opT 63 ++ (60 :: (nmT nX ++ (62 :: (opT e ++ u)))) := by
    have : ∀ k, opT (k + (e + 1)) = opT k ++ opT (e + 1) := fun k => by
      induction k with
      | zero => simp [opT]
      | succ k ih => rw [show k + 1 + (e + 1) = (k + (e + 1)) + 1 by omega, opT_succ, ih, opT_succ k, List.append_assoc]
    rw [show e + 64 = 63 + (e + 1) by omega, this, List.append_assoc, opT_succ e]
    rfl
  rw [← hop] at o1
  generalize hr : Mr ([60, 120, 62] ++ opT 63) (60 :: (nmT nX ++ (62 :: (opT e ++ u)))) ([tkO] ++ List.replicate 63 tkO) (List.replicate (1 + 63) fX) [] = r at o1
  have hcont : XRd.content decX signS r = (r.on 1).fail 10 := by
    rw [← hr, content_tag (n := nX) (nOk (by decide)) (by decide)]
    unfold XRd.element
    dsimp only
    rw [if_pos (by show 64 ≤ (List.replicate (1 + 63) fX).length; rw [List.length_replicate]; decide)]
    rfl
  have o2 : Stps 1 r ((r.on 1).fail 10) := Stps.one (by rw [← hr]; rfl) (by rw [← hr]; show List.replicate (1 + 63) fX ≠ []; decide) hcont
  have o := o1.trans o2
  have h10 : ((r.on 1).fail 10).e = 10 := by rw [← hr]; rfl
  obtain ⟨f, hf⟩ : ∃ f, N + 2 = f + (1 + 63) := ⟨N + 2 - (1 + 63), by omega⟩
  refine ⟨(r.on 1).fail 10, h10, ?_⟩
  have hof := o f
  rw [show List.replicate 1 fX = [fX] from rfl] at hof
  rw [hf, hof]
  cases f with
  | zero => rfl
  | succ f => unfold XRd.contents; rw [if_neg (fun h => by rw [h10] at h; exact absurd h.1 (by decide))]
abbrev nA : Txt × Txt := ([], [97])
abbrev aV (s : Txt) : (Txt × Txt) × Txt := (([], [118]), s)
def aheadP : Txt := [60, 63, 120, 109, 108, 32, 118, 101, 114, 115, 105, 111, 110, 61, 34, 49, 46, 48, 34, 63, 62, 60, 33, 45, 45, 32, 99, 32, 45, 45, 62]
def verT : Txt := [118, 101, 114, 115, 105, 111, 110, 61, 34, 49, 46, 48, 34]
def cdT : Txt := [60, 33, 91, 67, 68, 65, 84, 65, 91]
theorem front_p {u : Txt} : XRd.front decX ⟨aheadP ++ 60 :: 97 :: u, 0, 0, [], [], []⟩ = Mr aheadP (60 :: 97 :: u) [] [] [] := by
  have hr : (⟨aheadP ++ 60 :: 97 :: u, 0, 0, [], [], []⟩ : XRd) = Mr [] (aheadP ++ 60 :: 97 :: u) [] [] [] := rfl
  have h1 := Mr.wants (x := [60, 63, 120, 109, 108]) (p := []) (t := [32] ++ (verT ++ ([63, 62] ++ (60 :: 33 :: 45 :: 45 :: ([32, 99, 32] ++ 45 :: 45 :: 62 :: 60 :: 97 :: u))))) (out := []) (op := []) (run := [])
  have h2 := Mr.blanks (x := [32]) (p := [] ++ [60, 63, 120, 109, 108]) (t := verT ++ ([63, 62] ++ (60 :: 33 :: 45 :: 45 :: ([32, 99, 32] ++ 45 :: 45 :: 62 :: 60 :: 97 :: u)))) (out := []) (op := []) (run := []) (by decide) (.cons (by decide))
  have h3 := Mr.til (x := verT) (e := [63, 62]) (p := [] ++ [60, 63, 120, 109, 108] ++ [32]) (t := 60 :: 33 :: 45 :: 45 :: ([32, 99, 32] ++ 45 :: 45 :: 62 :: 60 :: 97 :: u)) (out := []) (op := []) (run := []) (by decide +kernel) (noM_head (by decide))
  have h4 := Mr.comment (x := [32, 99, 32]) (p := [] ++ [60, 63, 120, 109, 108] ++ [32] ++ (verT ++ [63, 62])) (t := 60 :: 97 :: u) (out := []) (op := []) (run := []) (by decide +kernel) (noM_head (by decide))
  have hm : ∀ f, XRd.misc decX (f + 2) (Mr ([] ++ [60, 63, 120, 109, 108] ++ [32] ++ (verT ++ [63, 62])) (60 :: 33 :: 45 :: 45 :: ([32, 99, 32] ++ 45 :: 45 :: 62 :: 60 :: 97 :: u)) [] [] []) = Mr aheadP (60 :: 97 :: u) [] [] [] := fun f => by
    unfold XRd.misc
    rw [if_neg (fun h => h rfl), Mr.blanks0 (.cons (by decide))]
    dsimp only
    rw [Mr.rest, if_neg (show ¬ XRd.isPre [60, 33] (60 :: 33 :: 45 :: 45 :: ([32, 99, 32] ++ 45 :: 45 :: 62 :: 60 :: 97 :: u)) = false from by intro h; cases h), h4]
    unfold XRd.misc
    rw [if_neg (fun h => h rfl), Mr.blanks0 (.cons (by decide))]
    dsimp only
    rw [Mr.rest, if_pos (by rfl)]
    rfl
  unfold XRd.front
  rw [hr]
  dsimp only
  have e1 : XRd.isPre [239, 187, 191] (aheadP ++ 60 :: 97 :: u) = false := rfl
  have e2 : XRd.isPre [60, 63] (aheadP ++ 60 :: 97 :: u) = true := rfl
  rw [Mr.rest, e1]
  simp only [Bool.false_eq_true, if_false]
  rw [Mr.rest, e2]
  simp only [if_true]
  rw [show Mr [] (aheadP ++ 60 :: 97 :: u) [] [] [] = Mr [] ([60, 63, 120, 109, 108] ++ ([32] ++ (verT ++ ([63, 62] ++ (60 :: 33 :: 45 :: 45 :: ([32, 99, 32] ++ 45 :: 45 :: 62 :: 60 :: 97 :: u)))))) [] [] [] from rfl, h1]
  rw [show ([32] ++ (verT ++ ([63, 62] ++ (60 :: 33 :: 45 :: 45 :: ([32, 99, 32] ++ 45 :: 45 :: 62 :: 60 :: 97 :: u)))) : Txt) = 32 :: (verT ++ ([63, 62] ++ (60 :: 33 :: 45 :: 45 :: ([32, 99, 32] ++ 45 :: 45 :: 62 :: 60 :: 97 :: u)))) from rfl, Mr.see0]
  dsimp only
  rw [if_pos (show (Mr _ _ _ _ _).e = 0 from rfl)]
  rw [show (32 :: (verT ++ ([63, 62] ++ (60 :: 33 :: 45 :: 45 :: ([32, 99, 32] ++ 45 :: 45 :: 62 :: 60 :: 97 :: u)))) : Txt) = [32] ++ (verT ++ ([63, 62] ++ (60 :: 33 :: 45 :: 45 :: ([32, 99, 32] ++ 45 :: 45 :: 62 :: 60 :: 97 :: u)))) from rfl, h2]
  dsimp only
  rw [show ∀ q : XRd, q.failIf (!decide (0 < ([32] : Txt).length)) 4 = q from fun _ => rfl, h3]
  exact hm _
theorem Mr.cdata (hc : cleanS s = true) (hn : NoM [93, 93, 62] s t) : XRd.content decX signS (Mr p (cdT ++ (s ++ ([93, 93, 62] ++ t))) out op run) = Mr (p ++ (cdT ++ (s ++ [93, 93, 62]))) t out op (run ++ s) := by
  have h1 := Mr.wants (x := cdT) (p := p) (t := s ++ ([93, 93, 62] ++ t)) (out := out) (op := op) (run := run)
  have h2 := Mr.til (p := p ++ cdT) (t := t) (out := out) (op := op) (run := run) hc hn
  unfold XRd.content
  dsimp only
  rw [show cdT ++ (s ++ ([93, 93, 62] ++ t)) = 60 :: 33 :: 91 :: 67 :: 68 :: 65 :: 84 :: 65 :: 91 :: (s ++ ([93, 93, 62] ++ t)) from rfl] at h1 ⊢
  rw [Mr.see0]
  dsimp only
  rw [if_neg (fun h => h rfl), Mr.see1]
  dsimp only
  rw [if_neg (fun h => h rfl), Mr.see2]
  dsimp only
  rw [if_pos ⟨rfl, rfl⟩, show ([60, 33, 91, 67, 68, 65, 84, 65, 91] : Txt) = cdT from rfl, h1, h2]
  rw [List.append_assoc]
  rfl
def docP (s : Txt) : Txt := aheadP ++ 60 :: (nmT nA ++ (attsT [aV s] ++ 62 :: (escS s ++ (cdT ++ (s ++ ([93, 93, 62] ++ 60 :: 47 :: (nmT nA ++ 62 :: [])))))))
def toksP (s : Txt) : List XTk := [⟨1, [], [97], [], [⟨[], [118], s⟩]⟩, ⟨3, [], [], s ++ s, []⟩, ⟨2, [], [97], [], []⟩]
theorem tok_p (hl : (docP s).length ≤ 20000) (hs : s ≠ []) (hc : cleanS s = true) (hs2 : s.length ≤ 4000) (hn : ∀ t, NoM [93, 93, 62] s t) : tokX (docP s) = (toksP s, 0) := by
  have hel := (escS_len s).1
  have hfront : XRd.front decX ⟨docP s, 0, 0, [], [], []⟩ = Mr aheadP (60 :: (nmT nA ++ (attsT [aV s] ++ 62 :: (escS s ++ (cdT ++ (s ++ ([93, 93, 62] ++ 60 :: 47 :: (nmT nA ++ 62 :: [])))))))) [] [] [] := front_p
  have hlen : s.length + 3 ≤ (docP s).length := by
    unfold docP
    simp only [List.length_append, List.length_cons]
    omega
  suffices key : ∃ p4, XRd.contents decX signS ((docP s).length + 2) (XRd.element decX signS (Mr aheadP (60 :: (nmT nA ++ (attsT [aV s] ++ 62 :: (escS s ++ (cdT ++ (s ++ ([93, 93, 62] ++ 60 :: 47 :: (nmT nA ++ 62 :: [])))))))) [] [] [])) = Mr p4 [] (toksP s) [] [] by
    obtain ⟨p4, key⟩ := key
    exact tok_ok (p1 := aheadP) (c := 97) hl hfront (by decide) key
  clear hfront
  generalize (docP s).length = N at *
  have oV : AOk (aV s) := ⟨nOk (n := ([], [118])) (by decide), hc, by show s.length ≤ 8000; omega⟩
  rw [Mr.element (n := nA) (az := [aV s]) (sp := []) (ats := [⟨[], [118], s⟩]) (nOk (by decide)) (by intro x hx; rw [List.mem_singleton.1 hx]; exact oV) (by rfl) (by decide) (by rfl) (by rfl)]
  generalize hfr : frOf nA [aV s] = F
  have hF : F = ⟨[], [97], []⟩ := by rw [← hfr]; rfl
  generalize aheadP ++ 60 :: (nmT nA ++ (attsT [aV s] ++ [62])) = p1
  obtain ⟨M, hM, o1⟩ := Stps.text (op := [] ++ [F]) (out := [] ++ [⟨1, [], nA.2, [], [⟨[], [118], s⟩]⟩]) (t := cdT ++ (s ++ ([93, 93, 62] ++ 60 :: 47 :: (nmT nA ++ 62 :: [])))) s.length (s := s) (p := p1) (run := []) (Nat.le_refl _) hc (by simp)
  have o2 := Stps.one (r := Mr (p1 ++ escS s) (cdT ++ (s ++ ([93, 93, 62] ++ 60 :: 47 :: (nmT nA ++ 62 :: [])))) ([] ++ [⟨1, [], nA.2, [], [⟨[], [118], s⟩]⟩]) ([] ++ [F]) ([] ++ s)) rfl (by simp [Mr]) (Mr.cdata hc (hn _))
  have o3 := Stps.one (r := Mr (p1 ++ escS s ++ (cdT ++ (s ++ [93, 93, 62]))) (60 :: 47 :: (nmT nA ++ 62 :: [])) ([] ++ [⟨1, [], nA.2, [], [⟨[], [118], s⟩]⟩]) ([] ++ [F]) ([] ++ s ++ s)) rfl (by simp [Mr]) (content_close (n := nA) (sp := []) (nOk (by decide)) (by rw [hF]) (by rw [hF]) (by simp; omega) (by rw [hF]; rfl))
  have o := (o1.trans o2).trans o3
  have hfl : flO ([] ++ [⟨1, [], nA.2, [], [⟨[], [118], s⟩]⟩]) ([] ++ s ++ s) ++ [⟨2, [], nA.2, [], []⟩] = toksP s := by
    unfold flO toksP
    rw [List.nil_append, if_neg (by simp [hs])]
    rfl
  rw [hfl] at o
  exact ⟨_, Stps.done (N := 1 + (1 + M)) o (by omega) rfl⟩
theorem inGo_cons (t : XTk) (l : List XTk) (d : Int) (b : Txt) : inGo (t :: l) d b = if d + kd t.kind = 0 then (b ++ txOf t, some 0) else ((inGo l (d + kd t.kind) (b ++ txOf t)).1, (inGo l (d + kd t.kind) (b ++ txOf t)).2.map (· + 1)) := rfl
/-- what is read of it, told back -/
theorem inner_q {d : Nat} (h1 : 1 ≤ d) (s : Txt) : innerX (toksQ d s) 0 = (s, ((toksQ d s).length : Int)) := by
  obtain ⟨d, rfl⟩ : ∃ g, d = g + 1 := ⟨d - 1, by omega⟩
  have opn : ∀ (k : Nat) (m : Nat) (u : List XTk), inGo (List.replicate k tkO ++ u) m [] = ((inGo u ((m + k : Nat) : Int) []).1, (inGo u ((m + k : Nat) : Int) []).2.map (· + k)) := by
    intro k
    induction k with
    | zero => intro m u; simp
    | succ k ih =>
      intro m u
      rw [List.replicate_succ, List.cons_append]
      rw [inGo_cons]
      have e1 : kd tkO.kind = 1 := rfl
      have e2 : txOf tkO = [] := rfl
      rw [e1, e2, if_neg (by omega), show (m : Int) + 1 = ((m + 1 : Nat) : Int) by push_cast; rfl, List.append_nil, ih (m + 1) u]
      rw [show m + 1 + k = m + (k + 1) by omega, Option.map_map]
      refine Prod.ext rfl ?_
      dsimp only
      cases (inGo u ((m + (k + 1) : Nat) : Int) []).2 with
      | none => rfl
      | some j => exact congrArg some (show j + k + 1 = j + (k + 1) by omega)
  have cls : ∀ (k : Nat) (b : Txt), inGo (List.replicate (k + 1) tkC) ((k + 1 : Nat) : Int) b = (b, some k) := by
    intro k
    induction k with
    | zero => intro b; simp [inGo, kd, txOf]
    | succ k ih =>
      intro b
      rw [List.replicate_succ]
      rw [inGo_cons]
      have e1 : kd tkC.kind = -1 := rfl
      have e2 : txOf tkC = [] := rfl
      rw [e1, e2, if_neg (by omega), show ((k + 1 + 1 : Nat) : Int) + -1 = ((k + 1 : Nat) : Int) by omega, List.append_nil, ih]
      rfl
  have hl : (toksQ (d + 1) s).length = 2 * d + 3 := by unfold toksQ; simp; omega
  unfold innerX
  rw [if_neg (by omega)]
  have h0 : (toksQ (d + 1) s)[(0 : Int).toNat]? = some tkO := by
    unfold toksQ
    rw [List.replicate_succ]; rfl
  rw [h0]
  dsimp only
  rw [if_neg (by decide), show (0 : Int).toNat = 0 from rfl, List.drop_zero]
  have hg : inGo (toksQ (d + 1) s) 0 [] = (s, some (2 * d + 2)) := by
    unfold toksQ
    rw [List.append_assoc]
    have := opn (d + 1) 0 ([⟨3, [], [], s, []⟩] ++ List.replicate (d + 1) tkC)
    rw [show ((0 : Nat) : Int) = 0 from rfl] at this
    rw [this, List.singleton_append]
    rw [inGo_cons]
    have e1 : kd (⟨3, [], [], s, []⟩ : XTk).kind = 0 := rfl
    have e2 : txOf (⟨3, [], [], s, []⟩ : XTk) = s := rfl
    rw [e1, e2, if_neg (by omega), Int.add_zero, Nat.zero_add, List.nil_append, cls d s]
    refine Prod.ext rfl ?_
    simp only [Option.map_some]
    congr 1; omega
  rw [hg, hl]
  refine Prod.ext rfl ?_
  dsimp only
  omega
end
section
variable {w0 W W' : World} {G : Nat → Prop} {l R R1 R2 : List As} {RR : Value → World → Prop} {s : Txt} {v : Value}
/-- XmlTexts -/
theorem texts_spec (hT : XTabs w0) {n : Int} (h : St w0 G0 [] W) (k : ∀ W', St w0 G0 [] W' → RR (.bool true) W') : CallF Tryd.prog 7 #[strV s, .int .i64 n] W RR := by
  refine sh7_calls ?_
  unfold sh7
  refine first_spec hT h fun W h => a_not (iff' ?_)
  have out : ∀ W, St w0 G0 [] W → CallF Tryd.prog 9 #[] W fun t w => RR t w := fun W h => first_spec hT h fun W h => k W h
  refine x_len (a_lss (ifd (fun hc => out W h) fun h1 => ?_))
  refine x_len (a_gtr (ifd (fun hc => out W h) fun h2 => ?_))
  refine a_lss (ifd (fun hc => out W h) fun h3 => ?_)
  refine a_gtr (ifd (fun hc => out W h) fun h4 => ?_)
  refine clean_spec (by omega) (a_not (ifnb (fun hca => out W h) fun hc => ?_))
  have hs : s ≠ [] := fun e => h1 (by rw [e]; decide)
  have hsl : s.length ≤ 2000 := by omega
  obtain ⟨d, rfl⟩ : ∃ d : Nat, n = (d : Int) := ⟨n.toNat, by omega⟩
  have hd1 : 1 ≤ d := by omega
  have hd2 : d ≤ 70 := by omega
  refine lpx (α := Nat) (fun i => [nV .i64 i]) (fun i W' => i ≤ s.length ∧ (∀ j, j < i → (s.drop j).take 3 ≠ [93, 93, 62]) ∧ W' = W) (fun i => s.length - i) 0 (fun _ => rfl) rfl ⟨Nat.zero_le _, fun j hj => absurd hj (Nat.not_lt_zero _), rfl⟩ ?_
  rintro next i W1 hnext ⟨q1, q2, rfl⟩
  refine app1 ?_
  refine a_add64 (by omega) (by omega) (x_len (a_lss (ifd (fun hc2 => ?_) fun hc2 => ?_)))
  · refine a_add64 (by omega) (by omega) ?_
    rw [show (i : Int) + 3 = ((i + 3 : Nat) : Int) by push_cast; rfl]
    refine x_cut (by omega) (by omega) (w_eqlL (ifd (fun he => out _ h) fun he => ?_))
    rw [show i + 3 - i = 3 by omega] at he
    refine a_add64 (by omega) (by omega) ⟨rfl, rfl, rfl, ?_⟩
    rw [show ((i : Int) + 1) = ((i + 1 : Nat) : Int) by push_cast; rfl]
    refine hnext (i + 1) _ (by omega) ⟨by omega, fun j hj => ?_, rfl⟩
    by_cases hji : j = i
    · rw [hji]; exact he
    · exact q2 j (by omega)
  have hcd : ∀ t, NoM [93, 93, 62] s t := fun t => noM_cdata fun j hj => q2 j (by omega)
  clear q1 q2 hnext hc2
  refine lpx (α := Nat) (fun i => [strV (opT i), strV (clT i), nV .i64 i]) (fun i W' => i ≤ d ∧ W' = W1) (fun i => d - i) 0 (fun _ => rfl) rfl ⟨Nat.zero_le _, rfl⟩ ?_
  rintro next i W2 hnext ⟨q1, rfl⟩
  refine app3 ?_
  refine a_lss (ifd (fun hc2 => ?_) fun hc2 => ?_)
  · refine a_cat (m := [60, 120, 62]) (by rw [opT_len]; simp; omega) ?_
    refine a_cat (m := [60, 47, 120, 62]) (by rw [clT_len]; simp; omega) ?_
    refine a_add64 (by omega) (by omega) ⟨rfl, rfl, rfl, ?_⟩
    rw [show ((i : Int) + 1) = ((i + 1 : Nat) : Int) by push_cast; rfl, ← opT_snoc, ← clT_snoc]
    exact hnext (i + 1) _ (by omega) ⟨by omega, rfl⟩
  have hid : i = d := by omega
  subst hid
  clear q1 hnext hc2
  have eal := (escS_len s).2
  have ol := opT_len i
  have cl := clT_len i
  refine escaped_spec (by omega) ?_
  refine a_cat (l := aheadP ++ [60, 97, 32, 118, 61, 34]) (m := escS s) (by show 37 + _ ≤ _; omega) ?_
  refine a_cat (m := [34, 62]) (by simp only [List.length_append]; show 31 + 6 + (escS s).length + 2 ≤ _; omega) ?_
  refine escaped_spec (by omega) ?_
  refine a_cat (m := escS s) (by simp only [List.length_append]; show 31 + 6 + (escS s).length + 2 + _ ≤ _; omega) ?_
  refine a_cat (m := cdT) (by simp only [List.length_append]; show 31 + 6 + (escS s).length + 2 + (escS s).length + 9 ≤ _; omega) ?_
  refine a_cat (m := s) (by simp only [List.length_append]; show 31 + 6 + (escS s).length + 2 + (escS s).length + 9 + _ ≤ _; omega) ?_
  refine a_cat (m := [93, 93, 62, 60, 47, 97, 62]) (by simp only [List.length_append]; show 31 + 6 + (escS s).length + 2 + (escS s).length + 9 + _ + 7 ≤ _; omega) ?_
  refine escaped_spec (by omega) ?_
  refine a_cat (l := opT i) (m := escS s) (by omega) ?_
  refine a_cat (m := clT i) (by rw [List.length_append]; omega) ?_
  have hp : (aheadP ++ [60, 97, 32, 118, 61, 34] ++ escS s ++ [34, 62] ++ escS s ++ cdT ++ s ++ [93, 93, 62, 60, 47, 97, 62] : Txt) = docP s := by
    simp [docP, attsT, attT, nmT, cdT]
  have hq : opT i ++ escS s ++ clT i = docQ i s := by unfold docQ; rw [List.append_assoc]
  rw [hp, hq]
  refine x_len (a_gtr (ifd (fun hc => out _ h) fun hpl => ?_))
  refine x_len (a_gtr (ifd (fun hc => out _ h) fun hql => ?_))
  refine h.ofStr fun v0 W o0 h => ?_
  refine tokens_spec hT (s := docP s) h (h.rsl (v := v0)) fun v1 W h t1 => a_ext0 (a_ext1 ?_)
  rw [tok_p (by omega) hs hc (by omega) hcd] at t1 ⊢
  have hT1 := xtabs_at hT h
  have h0 := h
  clear h
  have h := St.start W
  refine h.ofStr fun v2 W o2 h => ?_
  refine tokens_spec hT1 (s := docQ i s) h (h.rsl (v := v2)) fun v3 W h t3 => a_ext0 (a_ext1 ?_)
  replace h0 := h0.ext h.low
  replace t1 := t1.below h.low
  replace hT1 := xtabs_at hT1 h
  clear h
  have h := St.start W
  refine a_gtr (ifd (fun h64 => ?_) fun h64 => ?_)
  · refine first_spec hT1 h fun W h => ift (w_eql ?_)
    rw [decide_eq_true (tok_deep (by omega) (by omega))]
    exact k _ (h0.ext h.low).to
  rw [tok_q hd1 (by omega) (by omega) hs hc (by omega)] at t3 ⊢
  replace t3 : Toks W v3 (toksQ i s) := t3
  have hql' : (toksQ i s).length = 2 * i + 1 := by unfold toksQ; simp; omega
  refine inner_spec (at_ := 0) t3 (by omega) ?_ ?_ h fun W h => a_ext0 (a_ext1 ?_)
  · intro t ht
    unfold toksQ at ht
    simp only [List.mem_append, List.mem_replicate, List.mem_singleton] at ht
    rcases ht with (⟨_, rfl⟩ | rfl) | ⟨_, rfl⟩ <;> exact Nat.zero_le _
  · intro t ht
    unfold toksQ at ht
    simp only [List.mem_append, List.mem_replicate, List.mem_singleton] at ht
    rcases ht with (⟨_, rfl⟩ | rfl) | ⟨_, rfl⟩
    · exact Nat.zero_le _
    · show s.length ≤ _; omega
    · exact Nat.zero_le _
  rw [inner_q hd1 s]
  refine first_spec hT1 h fun W h => ift ?_
  replace t1 := t1.below h.low
  replace t3 := t3.below h.low
  refine w_eql (ifd_pos rfl ?_)
  obtain ⟨cs, hcs⟩ := tk_len t1
  obtain ⟨cs2, hcs2⟩ := tk_len t3
  refine x_lenS hcs (w_eql (ifd_pos rfl ?_))
  refine x_tkAtt (i := 0) t1 rfl fun va hva => ?_
  refine x_lenS hva (w_eql (ifd_pos rfl ?_))
  refine x_tkAtt (i := 0) t1 rfl fun va hva => ?_
  refine x_att (i := 0) (u := strV s) hva rfl rfl (by decide) rfl (w_eqlL (ifd_pos rfl ?_))
  refine x_tk (i := 1) (u := strV (s ++ s)) t1 rfl (by decide) (fun va => rfl) ?_
  refine a_cat (by omega) (w_eqlL (ifd_pos rfl ?_))
  refine w_eql (ifd_pos rfl ?_)
  refine x_lenS hcs2 (a_mul64 (by omega) (by omega) (a_add64 (by omega) (by omega) (w_eql (ifd_pos (by omega) ?_))))
  refine w_eqlL (ifd_pos rfl ?_)
  refine x_lenS hcs2 (w_eql ?_)
  rw [decide_eq_true rfl]
  exact k _ (h0.ext h.low).to
end
end Go.Proofs.YtlflpbflpcmckaaDoor
