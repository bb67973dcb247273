/-
  KEYS: what the rows open.
-/
import Derived.Test.YtgflkjhljggeiaaDoorKyD
import Derived.Lib.LaidU8
import Derived.HandedShaped
import Derived.Shelf.Vars
import Derived.LaidLaws
import Derived.Test.YtgflkjhljggeiaaDoorEzRow
namespace Go.Proofs.YtgflkjhljggeiaaDoor
open Go Go.Ez Go.RowKit Go.Lib Go.ChangeShapes Go.WideShapes
set_option linter.unusedVariables false
theorem handed_and_shaped {H : Type} {enc : TypeId × Value → H} {a : Assume} {C : Checked} {os : Os} {f : FuncId} {fn : Func} {s : ChangeSpec} {conds : List PathCond} {apart fresh handsOn again : Bool} {X : World → Array Value → Prop}
    (hX : ∀ (w w' : World) (args : Array Value), w.heap = w'.heap → X w args → X w' args)
    (own : ownKnob C.prog.godebug = none) (started : os.Started) (noInit : C.prog.inits.idxOf? f = none) (hfn : C.prog.funcs[f]? = some fn)
    (witness : ∃ (w : World) (tape : Tape) (i : Input), w.os = os ∧ (w.forCall tape i).Shaped C.prog ∧ i.vars = [] ∧ Input.okWide C.prog (w.forCall tape i) .any w.heap.size f i ∧
      ((s.pre enc C.prog fn conds apart (w.forCall tape i).memory i.args ∧ X (w.forCall tape i).memory i.args) ∧ sizedMet enc C.prog fn (OpenSpec.ofChange s) apart (w.forCall tape i).memory i.args) ∧ a.holds C.prog (lone (Frame.enter C.prog f i.args .normal) [] (w.forCall tape i)))
    (contract : ∀ (W : World) (base : Nat) (args : Array Value) (ds gs : List (DataW H)) (before : List MemPlace),
      (∀ (j : Nat) t v, fn.params[j]? = some t → args[j]? = some v → Value.okWide C.prog W .any base t v) →
      DataW.Whole enc C.prog fn.params.toList s.vars apart W args.toList ds gs before →
      conds.all (PathCond.test C.prog ⟨fn.params.toList, ds, s.plain.varTypes C.prog, gs⟩) = true →
      (DataW.weightsEach C.prog (fn.params.toList ++ s.plain.varTypes C.prog) (ds ++ gs)).all (· ≤ reachBytes) = true → W.ShapedOpen C.prog → X W args →
      a.holds C.prog (lone (Frame.enter C.prog f args .normal) [] W) →
      Calls C.prog f args W fun e W' => ∃ v, e = .returned v ∧ s.post enc C.prog fn apart fresh handsOn again W args v W') :
    ReturnsInHanded a C os f .any (fun w args => (s.pre enc C.prog fn conds apart w args ∧ X w args) ∧ sizedMet enc C.prog fn (OpenSpec.ofChange s) apart w args) (s.post enc C.prog fn apart fresh handsOn again) := by
  refine returnsInHanded_of_calls own started noInit witness ?_
  intro w tape i _ hsh _ hok hpre hholds
  obtain ⟨_, _, _, fn', hfn', _, _, _, _, hval⟩ := hok
  have e : fn' = fn := Option.some.inj (hfn'.symm.trans hfn)
  subst e
  obtain ⟨⟨⟨ds, gs, before, hw, hc⟩, hx⟩, hz⟩ := hpre
  have hw' := DataW.Whole.of_heap (w' := w.forCall tape i) (by rfl) hw
  refine (contract (w.forCall tape i) w.heap.size i.args ds gs before hval hw' hc (hz.weights hw) hsh (hX _ _ _ (by rfl) hx) hholds).mono fun e W' ⟨v, he, hp⟩ => ?_
  subst he
  exact ChangeSpec.post_blind hp
theorem tabIs_of_var {P : Program} {W : World} {name : String} {k : IntKind} {zs : List Int} {g : Nat} {t e : TypeId} {n : Nat}
    (hg : P.globalNamed name = some g) (hty : (P.globals[g]?).map (·.type) = some t) (ht : P.underlying t = some (.array n e)) (he : P.underlying e = some (.int k)) (hce : P.cellsOf e = 1) (hct : P.cellsOf t = n)
    (h : VarReads P W name (tabData k zs)) : TabIs P W name k zs := by
  obtain ⟨g', t', cs, fuel, p, hg', ht', hvar, hd⟩ := h
  obtain rfl := Option.some.inj (hg.symm.trans hg')
  obtain rfl := Option.some.inj (hty.symm.trans ht')
  unfold TabIs
  have := cells_of_tab ht he hce hct hd
  rw [hvar, ← this]
theorem wf_i64 {n : Int} (h : (Lit.int .i64 n).wf = true) : n ≤ 9223372036854775807 := by
  simp only [Lit.wf, Bool.and_eq_true, decide_eq_true_eq, IntKind.min, IntKind.max, IntKind.bits, IntKind.signed] at h
  have := h.2
  simp at this
  omega
theorem powTab_of {W : World} (h : VarReads Tryd.prog W "internal/strconv.uint64pow10" (tabData .u64 pow10Tab)) : PowTab W :=
  tabIs_of_var (g := (Tryd.prog.globalNamed "internal/strconv.uint64pow10").getD 0) (by kernel_rfl) (by kernel_rfl) Tryd.underlying117 Tryd.underlying88 (by kernel_rfl) (by kernel_rfl) h
/-- a variable that holds an error -/
theorem err_of_var {P : Program} {W : World} {name nm : String} {d : DataW Unit} {g : Nat} {ti : TypeId} {ms : Array (String × TypeId)} (hg : P.globalNamed name = some g) (ht : (P.globals[g]?).map (·.type) = some ti) (hi : P.underlying ti = some (.interface ms))
    (h : VarReads P W name (.iface nm d)) : ∃ ev, W.cell? ⟨g, 0, none⟩ = some ev ∧ (ev = .nilIface ∨ ∃ te pe, ev = .iface te pe) := by
  obtain ⟨g', t', cs, fuel, p, hg', ht', hvar, hd⟩ := h
  obtain rfl := Option.some.inj (hg.symm.trans hg')
  obtain rfl := Option.some.inj (ht.symm.trans ht')
  obtain ⟨f1, u, v, hcs, _⟩ := iface_of_trod hi hd
  refine ⟨.iface u v, ?_, .inr ⟨u, v, rfl⟩⟩
  rw [World.var?_cell hg hvar 0, ← Array.getElem?_toList, hcs]
  rfl
theorem ktabs_of {W : World} {d1 d2 : DataW Unit} {n1 n2 : String} (h : W.ShapedOpen Tryd.prog) (hp : PowTab W) (h1 : VarReads Tryd.prog W "strconv.ErrSyntax" (.iface n1 d1)) (h2 : VarReads Tryd.prog W "strconv.ErrRange" (.iface n2 d2)) : KTabs W :=
  ⟨hp, Go.Proofs.cell_of_shapedOpen_int (g := Tryd.lays146_ren.g 1) (t := 3) (zero := #[.int .i64 0]) h (Nat.le_of_ble_eq_true (by kernel_rfl)) (by kernel_rfl) rfl (by kernel_rfl) (by kernel_rfl) Tryd.underlying3,
    err_of_var (g := Tryd.laysC172_ren.g 15) (ti := 56) (by kernel_rfl) (by kernel_rfl) Tryd.underlying56 h1,
    err_of_var (g := Tryd.laysC172_ren.g 16) (ti := 56) (by kernel_rfl) (by kernel_rfl) Tryd.underlying56 h2⟩
set_option maxRecDepth 100000 in
theorem pt_of_trod {H : Type} {enc : TypeId × Value → H} {W : World} {b0 base : Nat} {r : Reach} {sp : Nat → Bool} {held : Bool} {v : Value} {d : DataW H} {ps : List MemPlace}
    (hval : Value.okWide Tryd.prog W r b0 23 v) (hd : DataW.Trod enc Tryd.prog W base sp held 23 v d ps) :
    ∃ p : Pts, v = ptV p ∧ p.user.length ≤ 9223372036854775807 ∧ p.feed.length ≤ 9223372036854775807 ∧ p.name.length ≤ 9223372036854775807 ∧ p.guid.length ≤ 9223372036854775807 ∧ p.num ≤ 9223372036854775807 := by
  obtain ⟨cs, rfl, hsz⟩ := okWide_struct Tryd.underlying23 hval
  obtain ⟨fuel, hf⟩ := hd
  have hcells : (Value.agg cs).cells.toList = cs.toList := rfl
  rw [hcells] at hf
  obtain ⟨xs, n, _, hx, hl, hlen, hfield⟩ := DataW.trod_struct Tryd.underlying23 hf
  have h6 : Tryd.prog.cellsOf 23 = 6 := by kernel_rfl
  have hs1 : Tryd.prog.cellsOf 9 = 1 := by kernel_rfl
  have hi1 : Tryd.prog.cellsOf 3 = 1 := by kernel_rfl
  rw [h6] at hl
  match hxs : xs, hlen with
  | [y0, y1, y2, y3, y4, y5], _ =>
    match hcs : cs.toList, hl with
    | [c0, c1, c2, c3, c4, c5], _ =>
      rw [hcs] at hfield
      have e0 : DataW.trod enc Tryd.prog W base sp held n 3 (([c0, c1, c2, c3, c4, c5].drop 0).take (Tryd.prog.cellsOf 3)) = some y0 := hfield 0 _ rfl
      have e1 : DataW.trod enc Tryd.prog W base sp held n 9 (([c0, c1, c2, c3, c4, c5].drop 1).take (Tryd.prog.cellsOf 9)) = some y1 := hfield 1 _ rfl
      have e2 : DataW.trod enc Tryd.prog W base sp held n 9 (([c0, c1, c2, c3, c4, c5].drop 2).take (Tryd.prog.cellsOf 9)) = some y2 := hfield 2 _ rfl
      have e3 : DataW.trod enc Tryd.prog W base sp held n 9 (([c0, c1, c2, c3, c4, c5].drop 3).take (Tryd.prog.cellsOf 9)) = some y3 := hfield 3 _ rfl
      have e4 : DataW.trod enc Tryd.prog W base sp held n 9 (([c0, c1, c2, c3, c4, c5].drop 4).take (Tryd.prog.cellsOf 9)) = some y4 := hfield 4 _ rfl
      have e5 : DataW.trod enc Tryd.prog W base sp held n 3 (([c0, c1, c2, c3, c4, c5].drop 5).take (Tryd.prog.cellsOf 3)) = some y5 := hfield 5 _ rfl
      rw [hs1] at e1 e2 e3 e4
      rw [hi1] at e0 e5
      obtain ⟨n0, g0, _, _⟩ := DataW.trod_int Tryd.underlying3 e0
      obtain ⟨s1, g1, _, m1⟩ := DataW.trod_string Tryd.underlying9 e1
      obtain ⟨s2, g2, _, m2⟩ := DataW.trod_string Tryd.underlying9 e2
      obtain ⟨s3, g3, _, m3⟩ := DataW.trod_string Tryd.underlying9 e3
      obtain ⟨s4, g4, _, m4⟩ := DataW.trod_string Tryd.underlying9 e4
      obtain ⟨n5, g5, _, w5⟩ := DataW.trod_int Tryd.underlying3 e5
      replace g0 : [c0] = [Value.int .i64 n0] := g0
      replace g1 : [c1] = [Value.string s1] := g1
      replace g2 : [c2] = [Value.string s2] := g2
      replace g3 : [c3] = [Value.string s3] := g3
      replace g4 : [c4] = [Value.string s4] := g4
      replace g5 : [c5] = [Value.int .i64 n5] := g5
      cases g0; cases g1; cases g2; cases g3; cases g4; cases g5
      refine ⟨⟨n0, s1.data.toList, s2.data.toList, s3.data.toList, s4.data.toList, n5⟩, ?_, ?_, ?_, ?_, ?_, wf_i64 w5⟩
      · have : cs = #[.int .i64 n0, .string s1, .string s2, .string s3, .string s4, .int .i64 n5] := by rw [← Array.toArray_toList (xs := cs), hcs]
        rw [this]; rfl
      all_goals
        simp only
      · have : s1.size = s1.data.toList.length := rfl
        unfold maxLen at m1; omega
      · have : s2.size = s2.data.toList.length := rfl
        unfold maxLen at m2; omega
      · have : s3.size = s3.data.toList.length := rfl
        unfold maxLen at m3; omega
      · have : s4.size = s4.data.toList.length := rfl
        unfold maxLen at m4; omega
end Go.Proofs.YtgflkjhljggeiaaDoor
