/-
  XML: a reader as a whole; begin, close, flush: what each answers.
-/
import Derived.Test.YtlflpbflpcmckaaDoorXmJ
namespace Go.Proofs.YtlflpbflpcmckaaDoor
open Go Go.Ez Go.RowKit Go.Lib
set_option linter.unusedSimpArgs false
set_option linter.unusedVariables false
abbrev atc (a : XAt) : List Value := [strV a.space, strV a.name, strV a.value]
theorem atc_len (a : XAt) : (atc a).length = 3 := rfl
abbrev tcell (p : XTk × Value) : List Value := [.int .i64 p.1.kind, strV p.1.space, strV p.1.name, strV p.1.text, p.2]
theorem tcell_len (p : XTk × Value) : (tcell p).length = 5 := rfl
abbrev TkS (ov : List (XTk × Value)) : Value → As := Ow 30 5 ov.length (rcells tcell ov)
abbrev AtS (o : List XAt) : Value → As := Ow 35 3 o.length (rcells atc o)
abbrev KqA (zs : List (Value × List XAt)) : PoolK → As := Kq atc 35 3 zs
/-- what a reader's memory is made of -/
structure XMem where
  vo : Value
  vp : Value
  vb : Value
  u : Bool
  ov : List (XTk × Value)
  pv : List (XFr × Nat)
  zs : List (Value × List XAt)
  ms : List (Nat × Fm)
def AtIn (zs : List (Value × List XAt)) (v : Value) (o : List XAt) : Prop := (v, o) ∈ zs ∨ (v = .slice none 0 0 ∧ o = [])
theorem AtIn.sub {zs zs' : List (Value × List XAt)} {v : Value} {o : List XAt} (h : AtIn zs v o) (hz : ∀ z ∈ zs, z ∈ zs') : AtIn zs' v o := h.imp (hz _) id
structure XFit (r : XRd) (m : XMem) : Prop where
  ov : m.ov.map Prod.fst = r.out
  oz : ∀ p ∈ m.ov, AtIn m.zs p.2 p.1.attrs ∧ p.2.oneCell' = true
  pv : m.pv.map Prod.fst = r.op
  pm : ∀ q ∈ m.pv, (q.2, q.1.spaces) ∈ m.ms
abbrev xc (b : Nat) (m : XMem) : XC := (m.vo, m.vp, xp b m.u, m.vb)
abbrev XLs (r : XRd) (b : Nat) (m : XMem) (R : List As) : List As := Ky b (Xo r (xc b m)) :: Ky m.vo (TkS m.ov) :: Ky m.vp (FrS m.pv) :: Ky m.vb (Ow 5 1 r.run.length (bytesV r.run)) :: Ky PoolK.a (KqA m.zs) :: Ky PoolK.b (Km m.ms) :: R
theorem XFit.same {r r' : XRd} {m : XMem} (h : XFit r m) (h1 : r'.out = r.out) (h2 : r'.op = r.op) : XFit r' m := ⟨h.ov.trans h1.symm, h.oz, h.pv.trans h2.symm, h.pm⟩
section
variable {P : Program} {S : World → Prop} {K : Value → Prop}
theorem s_lds {b n : Nat} {t : TypeId} {cs zs : List Value} [T : TyS P t n zs] [l1 : Len cs n] (hS : ∀ w, S w → Rec w b t cs) (k : K (.agg cs.toArray)) : RunS P S (Instr.loadAt t (.pointer (some ⟨b, 0, none⟩))) K :=
  s_of (fun w hw => x_lds (cs := cs) l1.eq (fun j u hu => by rw [Nat.zero_add]; exact (hS w hw).cell hu) rfl) k
end
section
variable {w0 W W' : World} {G : Nat → Prop} {l R R1 R2 : List As} {RR : Value → World → Prop} {t s pre : Txt} {b g n mb : Nat} {r : XRd} {v : Value} {f : XFr} {m : XMem} {L : List XPr}
theorem xo_rec {q : XRd} {c : XC} (h1 : q.s = r.s) (h2 : q.at_ = r.at_) (hr : Rec W b 67 (xcells q c)) : Rec W b 67 [strV r.s, nV .i64 r.at_, .int .i64 q.e, c.1, c.2.1, c.2.2.1, c.2.2.2] := by
  rw [← h1, ← h2]; exact hr
theorem space_keep (f : XFr) (pre : Txt) (r : XRd) : (XRd.space f pre r).2.s = r.s ∧ (XRd.space f pre r).2.at_ = r.at_ ∧ (XRd.space f pre r).2.out = r.out ∧ (XRd.space f pre r).2.op = r.op ∧ (XRd.space f pre r).2.run = r.run := by
  rw [XRd.space_eq]
  split
  · exact ⟨rfl, rfl, rfl, rfl, rfl⟩
  · unfold XRd.fail; split <;> exact ⟨rfl, rfl, rfl, rfl, rfl⟩
/-- close -/
theorem close_spec (h : St w0 G (XLs r b m R) W) (hm : XFit r m) (hl : m.pv.length ≤ 1000000) (hlo : m.ov.length ≤ 1000000) (hf : (mb, f.spaces) ∈ m.ms)
    (k : ∀ m' W', XFit (XRd.close f r) m' → m'.pv = m.pv → m'.ms = m.ms → m'.ov.length = m.ov.length + 1 → St w0 G (XLs (XRd.close f r) b m' R) W' → RR (.tuple #[]) W') : CallF Tryd.prog 45 #[.pointer (some ⟨b, 0, none⟩), .agg (fcell (f, mb)).toArray] W RR := by
  refine sh45_calls ?_
  unfold sh45
  obtain ⟨vo, vp, vb, u, ov, pv, zs, ms⟩ := m
  simp only at *
  have ovo : Cel1 vo := .of_own (h.ow (v := vo))
  have ovp : Cel1 vp := .of_own (h.ow (v := vp))
  have ovb : Cel1 vb := .of_own (h.ow (v := vb))
  refine h.boxS fun t3 W h => ?_
  refine ⟨fun W => (∃ e : Int, Rec W b 67 [strV r.s, nV .i64 r.at_, .int .i64 e, vo, vp, xp b u, vb]) ∧ Rec W t3 88 (fcell (f, mb)), ⟨⟨_, h.drew.rc⟩, h.drew.rc⟩, ?_⟩
  replace h := h.drew
  refine a_nil (a_fld0 (s_of (v := vo) (fun w hw => ?_) ?_))
  · obtain ⟨⟨e, he⟩, _⟩ := hw
    exact w_recF Tryd.isAgg24 he rfl rfl
  refine s_lds (cs := fcell (f, mb)) (fun w hw => hw.2) ?_
  refine a_fld0 (a_fld (o := 0) ?_)
  dsimp only [Nat.reduceAdd]
  refine s_ld (t := 88) (cs := fcell (f, mb)) (fun w hw => hw.2) rfl ?_
  refine a_fld0 (a_fld (o := 0) ?_)
  dsimp only [Nat.reduceAdd]
  refine s_ld (t := 88) (cs := fcell (f, mb)) (fun w hw => hw.2) rfl ?_
  refine space_spec (r := r) (f := f) (mb := mb) (pre := f.pre) (pv := pv) (ms := ms) (vo := vo) (vp := vp) (vx := xp b u) (vb := vb) h hm.pv hl hm.pm hf fun W h => ?_
  have hcl : XRd.close f r = { (XRd.space f f.pre r).2 with out := (XRd.space f f.pre r).2.out ++ [⟨2, (XRd.space f f.pre r).1, f.name, [], []⟩] } := rfl
  have hsp := space_keep f f.pre r
  obtain ⟨hs1, hs2, hs3, hs4, hs5⟩ := hsp
  rw [hcl] at k
  generalize XRd.space f f.pre r = q at *
  obtain ⟨q1, q2⟩ := q
  simp only at *
  refine ⟨⟨⟨q2.e, xo_rec hs1 hs2 (h.rc (b := b) (t := 67) (cs := xcells q2 (vo, vp, xp b u, vb)))⟩, h.rc⟩, ?_⟩
  refine x_bld (cells := (tcell (⟨2, q1, f.name, [], []⟩, .slice none 0 0)).toArray) rfl ?_
  refine ⟨⟨⟨q2.e, xo_rec hs1 hs2 (h.rc (b := b) (t := 67) (cs := xcells q2 (vo, vp, xp b u, vb)))⟩, h.rc⟩, ?_⟩
  refine h.lit fun uu W ou h => ?_
  refine ⟨⟨⟨q2.e, xo_rec hs1 hs2 (h.rc (b := b) (t := 67) (cs := xcells q2 (vo, vp, xp b u, vb)))⟩, h.rc⟩, ?_⟩
  refine h.app (v := vo) (h.osl (v := uu)) (by intro a ha; simp only [List.mem_cons, List.not_mem_nil, or_false] at ha; rcases ha with rfl | rfl | rfl | rfl | rfl <;> rfl) (by unfold maxLen; omega) (by omega) fun vo' W o' h _ => ?_
  refine a_nil (a_fld0 (h.store fun W h => ?_))
  have e1 : ov.length + 1 = (ov ++ [((⟨2, q1, f.name, [], []⟩ : XTk), (.slice none 0 0 : Value))]).length := by simp
  have e2 : rcells tcell ov ++ tcell (⟨2, q1, f.name, [], []⟩, .slice none 0 0) = rcells tcell (ov ++ [((⟨2, q1, f.name, [], []⟩ : XTk), (.slice none 0 0 : Value))]) := by rw [rc_append, rc_single]
  refine k ⟨vo', vp, vb, u, ov ++ [((⟨2, q1, f.name, [], []⟩ : XTk), (.slice none 0 0 : Value))], pv, zs, ms⟩ W ⟨?_, ?_, ?_, hm.pm⟩ rfl rfl (by simp) ?_
  · show (ov ++ _).map Prod.fst = q2.out ++ _
    rw [List.map_append, hs3, ← hm.ov]; rfl
  · intro p hp
    rcases List.mem_append.1 hp with hp | hp
    · exact hm.oz p hp
    · rw [List.mem_singleton.1 hp]
      exact ⟨.inr ⟨rfl, rfl⟩, rfl⟩
  · show pv.map Prod.fst = q2.op
    rw [hs4]; exact hm.pv
  · replace h : St w0 G (Ky b (Xo q2 (vo', vp, xp b u, vb)) :: Ky vo' (Ow 30 5 (ov.length + 1) (rcells tcell ov ++ tcell (⟨2, q1, f.name, [], []⟩, .slice none 0 0))) :: _) W := h
    rw [e2, e1] at h
    show St w0 G (Ky b (Xo q2 (vo', vp, xp b u, vb)) :: Ky vo' (TkS (ov ++ [((⟨2, q1, f.name, [], []⟩ : XTk), (.slice none 0 0 : Value))])) :: Ky vp (FrS pv) :: Ky vb (Ow 5 1 q2.run.length (bytesV q2.run)) :: Ky PoolK.a (KqA zs) :: Ky PoolK.b (Km ms) :: R) W
    rw [hs5]
    exact h.to
/-- flush -/
theorem flush_spec (h : St w0 G (XLs r b m R) W) (hm : XFit r m) (hlo : m.ov.length ≤ 1000000) (hr : r.run.length ≤ 100000000000)
    (k : ∀ m' W', XFit r.flush m' → m'.pv = m.pv → m'.ms = m.ms → m'.ov.length ≤ m.ov.length + 1 → St w0 G (XLs r.flush b m' R) W' → RR (.tuple #[]) W') : CallF Tryd.prog 48 #[.pointer (some ⟨b, 0, none⟩)] W RR := by
  refine sh48_calls ?_
  unfold sh48
  obtain ⟨vo, vp, vb, u, ov, pv, zs, ms⟩ := m
  simp only at *
  have ovo : Cel1 vo := .of_own (h.ow (v := vo))
  have ovp : Cel1 vp := .of_own (h.ow (v := vp))
  have ovb : Cel1 vb := .of_own (h.ow (v := vb))
  refine a_nil (a_fld0 ?_)
  refine xbstr_spec (r := r) (vo := vo) (vp := vp) (u := u) (v := vb) (t := r.run) h hr fun W h => ?_
  refine a_nil (a_fld0 ?_)
  refine xreset_spec (r := r) (vo := vo) (vp := vp) (u := u) (v := vb) h fun W h => ?_
  replace h : St w0 G (Ky (.slice none 0 0) (Ow 5 1 0 []) :: Ky b (Xo r (vo, vp, xp b false, .slice none 0 0)) :: Ky vo (TkS ov) :: Ky vp (FrS pv) :: Ky PoolK.a (KqA zs) :: Ky PoolK.b (Km ms) :: R) W := h.nilOw
  unfold XRd.flush at k
  refine x_len (a_gtr (ifd (fun hc => ?_) fun hc => ?_))
  · rw [if_pos (by omega)] at k
    refine fail_spec (r := r) (c := (vo, vp, xp b false, .slice none 0 0)) h fun W h => ?_
    have hx : (({ r with run := [] } : XRd).fail 3).e = (r.fail 3).e ∧ (({ r with run := [] } : XRd).fail 3).at_ = (r.fail 3).at_ ∧ (({ r with run := [] } : XRd).fail 3).s = (r.fail 3).s ∧ (({ r with run := [] } : XRd).fail 3).run = [] ∧ (({ r with run := [] } : XRd).fail 3).out = r.out ∧ (({ r with run := [] } : XRd).fail 3).op = r.op := by
      unfold XRd.fail; by_cases he : r.e = 0 <;> simp [he]
    obtain ⟨x1, x2, x3, x4, x5, x6⟩ := hx
    refine k ⟨vo, vp, .slice none 0 0, false, ov, pv, zs, ms⟩ W ⟨hm.ov.trans x5.symm, hm.oz, hm.pv.trans x6.symm, hm.pm⟩ rfl rfl (by simp) ?_
    show St w0 G (Ky b (Xo (({ r with run := [] } : XRd).fail 3) (vo, vp, xp b false, .slice none 0 0)) :: Ky vo (TkS ov) :: Ky vp (FrS pv) :: Ky (.slice none 0 0) (Ow 5 1 (({ r with run := [] } : XRd).fail 3).run.length (bytesV (({ r with run := [] } : XRd).fail 3).run)) :: Ky PoolK.a (KqA zs) :: Ky PoolK.b (Km ms) :: R) W
    rw [x4]
    have : Xo (({ r with run := [] } : XRd).fail 3) (vo, vp, xp b false, .slice none 0 0) = Xo (r.fail 3) (vo, vp, xp b false, .slice none 0 0) := by unfold Xo; simp only [xcells, x1, x2, x3]
    rw [this]
    replace h : St w0 G (Ky b (Xo (r.fail 3) (vo, vp, xp b false, .slice none 0 0)) :: Ky vo (TkS ov) :: Ky vp (FrS pv) :: Ky (.slice none 0 0) (Ow 5 1 0 []) :: Ky PoolK.a (KqA zs) :: Ky PoolK.b (Km ms) :: R) W := h.to
    exact h
  · rw [if_neg (by omega)] at k
    refine w_neqL (ifd (fun hne => ?_) fun hne => ?_)
    · rw [if_pos hne] at k
      refine a_nil (a_fld0 (h.load ?_))
      refine x_bld (cells := (tcell (⟨3, [], [], r.run, []⟩, .slice none 0 0)).toArray) rfl ?_
      refine h.lit fun uu W ou h => ?_
      refine h.app (v := vo) (h.osl (v := uu)) (by intro a ha; simp only [List.mem_cons, List.not_mem_nil, or_false] at ha; rcases ha with rfl | rfl | rfl | rfl | rfl <;> rfl) (by unfold maxLen; omega) (by omega) fun vo' W o' h _ => ?_
      refine a_nil (a_fld0 (h.store fun W h => ?_))
      have e1 : ov.length + 1 = (ov ++ [((⟨3, [], [], r.run, []⟩ : XTk), (.slice none 0 0 : Value))]).length := by simp
      have e2 : rcells tcell ov ++ tcell (⟨3, [], [], r.run, []⟩, .slice none 0 0) = rcells tcell (ov ++ [((⟨3, [], [], r.run, []⟩ : XTk), (.slice none 0 0 : Value))]) := by rw [rc_append, rc_single]
      refine k ⟨vo', vp, .slice none 0 0, false, ov ++ [((⟨3, [], [], r.run, []⟩ : XTk), (.slice none 0 0 : Value))], pv, zs, ms⟩ W ⟨?_, ?_, hm.pv, hm.pm⟩ rfl rfl (by simp) ?_
      · show (ov ++ _).map Prod.fst = r.out ++ _
        rw [List.map_append, ← hm.ov]; rfl
      · intro p hp
        rcases List.mem_append.1 hp with hp | hp
        · exact hm.oz p hp
        · rw [List.mem_singleton.1 hp]
          exact ⟨.inr ⟨rfl, rfl⟩, rfl⟩
      · replace h : St w0 G (Ky b (Xo r (vo', vp, xp b false, .slice none 0 0)) :: Ky vo' (Ow 30 5 (ov.length + 1) (rcells tcell ov ++ tcell (⟨3, [], [], r.run, []⟩, .slice none 0 0))) :: _) W := h
        rw [e2, e1] at h
        show St w0 G (Ky b (Xo r (vo', vp, xp b false, .slice none 0 0)) :: Ky vo' (TkS (ov ++ [((⟨3, [], [], r.run, []⟩ : XTk), (.slice none 0 0 : Value))])) :: Ky vp (FrS pv) :: Ky (.slice none 0 0) (Ow 5 1 0 []) :: Ky PoolK.a (KqA zs) :: Ky PoolK.b (Km ms) :: R) W
        exact h.to
    · rw [if_neg hne] at k
      refine k ⟨vo, vp, .slice none 0 0, false, ov, pv, zs, ms⟩ W ⟨hm.ov, hm.oz, hm.pv, hm.pm⟩ rfl rfl (by simp) ?_
      show St w0 G (Ky b (Xo r (vo, vp, xp b false, .slice none 0 0)) :: Ky vo (TkS ov) :: Ky vp (FrS pv) :: Ky (.slice none 0 0) (Ow 5 1 0 []) :: Ky PoolK.a (KqA zs) :: Ky PoolK.b (Km ms) :: R) W
      exact h.to
end
end Go.Proofs.YtlflpbflpcmckaaDoor
