/-
  XmlSpaces: what the document says, plainly; the walk.
-/
import Derived.Test.YtlflpbflpcmckaaDoorXmSb
import Derived.Test.YtlflpbflpcmckaaDoorXmV
namespace Go.Proofs.YtlflpbflpcmckaaDoor
open Go Go.Ez Go.RowKit Go.Lib
set_option linter.unusedSimpArgs false
set_option linter.unusedVariables false
def nmB (x : Txt) : Bool := (match x with | c :: _ => XRd.begs c | [] => false) && x.all XRd.goes
theorem nmOk {x : Txt} (h : nmB x = true) : NmOk x := by
  unfold nmB at h
  rw [Bool.and_eq_true] at h
  refine ⟨?_, List.all_eq_true.1 h.2⟩
  cases x with
  | nil => exact absurd h.1 (by decide)
  | cons c r => exact ⟨c, r, rfl, h.1⟩
theorem nOk {n : Txt × Txt} (h : ((n.1 == [] || nmB n.1) && nmB n.2) = true) : NOk n := by
  rw [Bool.and_eq_true, Bool.or_eq_true, beq_iff_eq] at h
  exact ⟨h.1.imp id nmOk, nmOk h.2⟩
abbrev nR : Txt × Txt := ([], [114])
abbrev nS : Txt × Txt := ([107], [115])
abbrev nT : Txt × Txt := ([], [116])
abbrev nU : Txt × Txt := ([107], [117])
abbrev nXv : Txt × Txt := ([120, 109, 108], [118])
abbrev aX (v : Txt) : (Txt × Txt) × Txt := (([], [120, 109, 108, 110, 115]), v)
abbrev aK (v : Txt) : (Txt × Txt) × Txt := (([120, 109, 108, 110, 115], [107]), v)
abbrev aZ : (Txt × Txt) × Txt := (([107], [122]), [49])
abbrev aY : (Txt × Txt) × Txt := (([], [121]), [50])
def spDoc (a b : Txt) : Txt := 60 :: (nmT nR ++ (attsT [aX a, aK b, aZ, aY] ++ 62 :: (60 :: (nmT nS ++ (attsT [aK a] ++ 47 :: 62 :: (60 :: (nmT nT ++ (attsT [aX b] ++ 47 :: 62 :: (60 :: (nmT nU ++ (attsT [] ++ 47 :: 62 :: (60 :: (nmT nXv ++ (attsT [] ++ 47 :: 62 :: (60 :: 47 :: (nmT nR ++ 62 :: []))))))))))))))))
def spToks (a b : Txt) : List XTk := [⟨1, a, [114], [], [⟨b, [122], [49]⟩, ⟨[], [121], [50]⟩]⟩, ⟨1, a, [115], [], []⟩, ⟨2, a, [115], [], []⟩, ⟨1, b, [116], [], []⟩, ⟨2, b, [116], [], []⟩, ⟨1, b, [117], [], []⟩, ⟨2, b, [117], [], []⟩, ⟨1, [120, 109, 108], [118], [], []⟩, ⟨2, [120, 109, 108], [118], [], []⟩, ⟨2, a, [114], [], []⟩]
theorem sp_len {a b : Txt} (ha : a.length ≤ 200) (hb : b.length ≤ 200) : 20 ≤ (spDoc a b).length ∧ (spDoc a b).length ≤ 20000 := by
  have h1 := (escS_len a).2
  have h2 := (escS_len b).2
  have e1 : escS [49] = [49] := rfl
  have e2 : escS [50] = [50] := rfl
  have e3 : attsT [] = [] := rfl
  simp [spDoc, attsT_cons, e3, attT, nmT, e1, e2]
  omega
theorem sp_tok {a b : Txt} (ha : a.length ≤ 200) (hb : b.length ≤ 200) (hca : cleanS a = true) (hcb : cleanS b = true) : tokX (spDoc a b) = (spToks a b, 0) := by
  obtain ⟨hl1, hl2⟩ := sp_len ha hb
  have oX : ∀ v, v.length ≤ 200 → cleanS v = true → AOk (aX v) := fun v h1 h2 => ⟨nOk (n := ([], [120, 109, 108, 110, 115])) (by decide), h2, by show v.length ≤ 8000; omega⟩
  have oK : ∀ v, v.length ≤ 200 → cleanS v = true → AOk (aK v) := fun v h1 h2 => ⟨nOk (n := ([120, 109, 108, 110, 115], [107])) (by decide), h2, by show v.length ≤ 8000; omega⟩
  have oZ : AOk aZ := ⟨nOk (by decide), by decide +kernel, by decide⟩
  have oY : AOk aY := ⟨nOk (by decide), by decide +kernel, by decide⟩
  generalize hF0 : frOf nR [aX a, aK b, aZ, aY] = F0
  have hF0s : F0 = ⟨[], [114], [([107], b), ([], a)]⟩ := by rw [← hF0]; rfl
  have hroot := fun u => Mr.element (p := []) (t := u) (out := []) (op := []) (run := []) (n := nR) (az := [aX a, aK b, aZ, aY]) (sp := a) (ats := [⟨b, [122], [49]⟩, ⟨[], [121], [50]⟩]) (nOk (by decide))
    (by intro x hx; simp only [List.mem_cons, List.not_mem_nil, or_false] at hx; rcases hx with rfl | rfl | rfl | rfl; exact oX a ha hca; exact oK b hb hcb; exact oZ; exact oY) (by rfl) (by decide) (by rfl) (by rfl)
  have hfront : XRd.front decX ⟨spDoc a b, 0, 0, [], [], []⟩ = Mr [] (spDoc a b) [] [] [] := front_plain (d := 114) (by decide)
  have hd : spDoc a b = 60 :: (nmT nR ++ (attsT [aX a, aK b, aZ, aY] ++ 62 :: (60 :: (nmT nS ++ (attsT [aK a] ++ 47 :: 62 :: (60 :: (nmT nT ++ (attsT [aX b] ++ 47 :: 62 :: (60 :: (nmT nU ++ (attsT [] ++ 47 :: 62 :: (60 :: (nmT nXv ++ (attsT [] ++ 47 :: 62 :: (60 :: 47 :: (nmT nR ++ 62 :: [])))))))))))))))) := rfl
  suffices key : ∃ p4, XRd.contents decX signS ((spDoc a b).length + 2) (XRd.element decX signS (Mr [] (spDoc a b) [] [] [])) = Mr p4 [] (spToks a b) [] [] by
    obtain ⟨p4, key⟩ := key
    exact tok_ok (p1 := []) (c := 114) hl2 hfront (by decide) key
  clear hfront
  generalize (spDoc a b).length = N at *
  rw [hd, hroot]
  simp only [List.nil_append]
  rw [hF0]
  have s1 := fun p u out f => (Stps.one (r := Mr p (60 :: (nmT nS ++ (attsT [aK a] ++ 47 :: 62 :: u))) out [F0] []) rfl (by simp [Mr]) (content_one (p := p) (t := u) (out := out) (op := [F0]) (run := []) (n := nS) (az := [aK a]) (sp := a) (ats := []) (nOk (by decide)) (by decide)
    (by intro x hx; simp only [List.mem_cons, List.not_mem_nil, or_false] at hx; rcases hx with rfl; exact oK a ha hca) (by rfl) (by show 1 < 64; decide) (by rfl) (by rfl))) f
  have s2 := fun p u out f => (Stps.one (r := Mr p (60 :: (nmT nT ++ (attsT [aX b] ++ 47 :: 62 :: u))) out [F0] []) rfl (by simp [Mr]) (content_one (p := p) (t := u) (out := out) (op := [F0]) (run := []) (n := nT) (az := [aX b]) (sp := b) (ats := []) (nOk (by decide)) (by decide)
    (by intro x hx; simp only [List.mem_cons, List.not_mem_nil, or_false] at hx; rcases hx with rfl; exact oX b hb hcb) (by rfl) (by show 1 < 64; decide) (by rfl) (by rfl))) f
  have s3 := fun p u out f => (Stps.one (r := Mr p (60 :: (nmT nU ++ (attsT [] ++ 47 :: 62 :: u))) out [F0] []) rfl (by simp [Mr]) (content_one (p := p) (t := u) (out := out) (op := [F0]) (run := []) (n := nU) (az := []) (sp := b) (ats := []) (nOk (by decide)) (by decide)
    (by intro x hx; simp at hx) (by rfl) (by show 1 < 64; decide) (by rw [hF0s]; rfl) (by rfl))) f
  have s4 := fun p u out f => (Stps.one (r := Mr p (60 :: (nmT nXv ++ (attsT [] ++ 47 :: 62 :: u))) out [F0] []) rfl (by simp [Mr]) (content_one (p := p) (t := u) (out := out) (op := [F0]) (run := []) (n := nXv) (az := []) (sp := [120, 109, 108]) (ats := []) (nOk (by decide)) (by decide)
    (by intro x hx; simp at hx) (by rfl) (by show 1 < 64; decide) (by rfl) (by rfl))) f
  have s5 := fun p u out f => (Stps.one (r := Mr p (60 :: 47 :: (nmT nR ++ 62 :: u)) out ([] ++ [F0]) []) rfl (by simp [Mr]) (content_close (p := p) (t := u) (out := out) (op := []) (run := []) (n := nR) (f := F0) (sp := a) (nOk (by decide)) (by rw [hF0s]) (by rw [hF0s]) (by decide) (by rw [hF0s]; rfl))) f
  have s5' : ∀ (p u : Txt) (out : List XTk) (f : Nat), XRd.contents decX signS (f + 1) (Mr p (60 :: 47 :: (nmT nR ++ 62 :: u)) out [F0] []) = XRd.contents decX signS f (Mr (p ++ 60 :: 47 :: (nmT nR ++ [62])) u (flO out [] ++ [⟨2, a, nR.2, [], []⟩]) [] []) := s5
  rw [show N + 2 = (N - 3) + 1 + 1 + 1 + 1 + 1 by omega, s1, s2, s3, s4, s5', contents_done rfl]
  exact ⟨_, rfl⟩
section
variable {w0 W W' : World} {G : Nat → Prop} {l R R1 R2 : List As} {RR : Value → World → Prop} {s a b : Txt} {v : Value} {ts : List XTk} {tk : XTk} {i n : Nat} {K : Value → Prop} {k0 : IntKind} {o : List XAt} {at_ : XAt}
/-- a token's attributes -/
theorem x_tkAtt (ht : Toks W v ts) (hi : ts[i]? = some tk) (k : ∀ va, Sl W 3 va tk.attrs.length (rcells atc tk.attrs) → K va) :
    RunA Tryd.prog (Instr.indexAt 24 v (.int k0 (i : Int))) fun p => RunA Tryd.prog (Instr.fieldAt 30 p 4) fun q => RunW Tryd.prog (Instr.loadAt 28 q) W K := by
  obtain ⟨ov, h1, h2, h3⟩ := ht
  obtain ⟨va, hva⟩ := tk_ov h1 hi
  have hil := (List.getElem?_eq_some_iff.1 hva).1
  exact x_fld h2 (by omega) (by decide) (by rw [rc_get tcell_len hva (by decide)]; rfl) (k va (h3 _ (List.mem_of_getElem? hva)).2)
theorem x_att {f off : Nat} {ty : TypeId} {z u : Value} [F : Fld Tryd.prog 35 f off] [T : Ty1 Tryd.prog ty z] (hs : Sl W 3 v n (rcells atc o)) (hn : n = o.length) (hi : o[i]? = some at_) (ho : off < 3) (hu : (atc at_)[off]? = some u) (k : K u) :
    RunA Tryd.prog (Instr.indexAt 28 v (.int k0 (i : Int))) fun p => RunA Tryd.prog (Instr.fieldAt 35 p f) fun q => RunW Tryd.prog (Instr.loadAt ty q) W K := by
  have hil := (List.getElem?_eq_some_iff.1 hi).1
  exact x_fld hs (by omega) ho (by rw [rc_get atc_len hi ho]; exact hu) k
/-- XmlSpaces -/
theorem spaces_spec (hT : XTabs w0) (h : St w0 G0 [] W) (k : ∀ W', St w0 G0 [] W' → RR (.bool true) W') : CallF Tryd.prog 4 #[strV a, strV b] W RR := by
  refine sh4_calls ?_
  unfold sh4
  refine first_spec hT h fun W h => a_not (iff' ?_)
  have out : ∀ W, St w0 G0 [] W → CallF Tryd.prog 9 #[] W fun t w => RR t w := fun W h => first_spec hT h fun W h => k W h
  refine x_len (a_gtr (ifd (fun hc => out W h) fun hc => ?_))
  refine x_len (a_gtr (ifd (fun hc2 => out W h) fun hc2 => ?_))
  refine clean_spec (by omega) (a_not (ifnb (fun hca => out W h) fun hca => ?_))
  refine clean_spec (by omega) (a_not (ifnb (fun hcb => out W h) fun hcb => ?_))
  have ha : a.length ≤ 200 := by omega
  have hb : b.length ≤ 200 := by omega
  have ea := (escS_len a).2
  have eb := (escS_len b).2
  refine escaped_spec (by omega) (escaped_spec (by omega) ?_)
  refine a_cat (l := [60, 114, 32, 120, 109, 108, 110, 115, 61, 34]) (m := escS a) (by simp; omega) ?_
  refine a_cat (m := [34, 32, 120, 109, 108, 110, 115, 58, 107, 61, 34]) (by simp; omega) ?_
  refine a_cat (m := escS b) (by simp; omega) ?_
  refine a_cat (m := [34, 32, 107, 58, 122, 61, 34, 49, 34, 32, 121, 61, 34, 50, 34, 62, 60, 107, 58, 115, 32, 120, 109, 108, 110, 115, 58, 107, 61, 34]) (by simp; omega) ?_
  refine a_cat (m := escS a) (by simp; omega) ?_
  refine a_cat (m := [34, 47, 62, 60, 116, 32, 120, 109, 108, 110, 115, 61, 34]) (by simp; omega) ?_
  refine a_cat (m := escS b) (by simp; omega) ?_
  refine a_cat (m := [34, 47, 62, 60, 107, 58, 117, 47, 62, 60, 120, 109, 108, 58, 118, 47, 62, 60, 47, 114, 62]) (by simp; omega) ?_
  have hdoc : ([60, 114, 32, 120, 109, 108, 110, 115, 61, 34] ++ escS a ++ [34, 32, 120, 109, 108, 110, 115, 58, 107, 61, 34] ++ escS b ++ [34, 32, 107, 58, 122, 61, 34, 49, 34, 32, 121, 61, 34, 50, 34, 62, 60, 107, 58, 115, 32, 120, 109, 108, 110, 115, 58, 107, 61, 34] ++ escS a ++ [34, 47, 62, 60, 116, 32, 120, 109, 108, 110, 115, 61, 34] ++ escS b ++ [34, 47, 62, 60, 107, 58, 117, 47, 62, 60, 120, 109, 108, 58, 118, 47, 62, 60, 47, 114, 62] : Txt) = spDoc a b := by
    have e1 : escS [49] = [49] := rfl
    have e2 : escS [50] = [50] := rfl
    have e3 : attsT [] = [] := rfl
    simp [spDoc, attsT_cons, e3, attT, nmT, e1, e2]
  rw [hdoc]
  refine h.ofStr fun v0 W o0 h => ?_
  refine tokens_spec hT (s := spDoc a b) h (h.rsl (v := v0)) fun v1 W h t1 => a_ext0 (a_ext1 ?_)
  rw [sp_tok ha hb hca hcb] at t1 ⊢
  refine w_neq (ifd_neg (fun hx => hx rfl) ?_)
  obtain ⟨cs, hcs⟩ := tk_len t1
  refine x_lenS hcs (w_neq (ifd_neg (fun hx => hx rfl) ?_))
  refine x_tkAtt (i := 0) t1 rfl fun va hva => ?_
  refine x_lenS hva (w_neq (ifd_neg (fun hx => hx rfl) ?_))
  have hT1 := xtabs_at hT h
  have h0 := h
  refine first_spec hT1 (St.start W) fun W h => ift ?_
  replace t1 := t1.below h.low
  refine x_tk (i := 0) (u := strV a) t1 rfl (by decide) (fun va => rfl) (w_eqlL (ifd_pos rfl ?_))
  refine x_tkAtt (i := 0) t1 rfl fun va hva => ?_
  refine x_att (i := 0) (u := strV b) hva rfl rfl (by decide) rfl (w_eqlL (ifd_pos rfl ?_))
  refine x_tkAtt (i := 0) t1 rfl fun va hva => ?_
  refine x_att (i := 0) (u := strV [122]) hva rfl rfl (by decide) rfl (w_eqlL (ifd_pos rfl ?_))
  refine x_tkAtt (i := 0) t1 rfl fun va hva => ?_
  refine x_att (i := 1) (u := strV []) hva rfl rfl (by decide) rfl (w_eqlL (ifd_pos rfl ?_))
  refine x_tk (i := 1) (u := strV a) t1 rfl (by decide) (fun va => rfl) (w_eqlL (ifd_pos rfl ?_))
  refine x_tk (i := 1) (u := strV [115]) t1 rfl (by decide) (fun va => rfl) (w_eqlL (ifd_pos rfl ?_))
  refine x_tk (i := 3) (u := strV b) t1 rfl (by decide) (fun va => rfl) (w_eqlL (ifd_pos rfl ?_))
  refine x_tk (i := 5) (u := strV b) t1 rfl (by decide) (fun va => rfl) (w_eqlL (ifd_pos rfl ?_))
  refine x_tk (i := 7) (u := strV [120, 109, 108]) t1 rfl (by decide) (fun va => rfl) (w_eqlL (ifd_pos rfl ?_))
  refine x_tk (i := 9) (u := strV a) t1 rfl (by decide) (fun va => rfl) (w_eqlL ?_)
  rw [decide_eq_true rfl]
  exact k _ ((h0.ext h.low).to)
end
end Go.Proofs.YtlflpbflpcmckaaDoor
