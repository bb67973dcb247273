/-
  FILES THAT FALL: an argument that is a slice of operations, opened.
-/
import Derived.Test.YtdoopdbfajgnjaaEzRow3
import Derived.Test.YtdoopdbfajgnjaaDkG
namespace Go.Proofs.Ytdoopdbfajgnjaa
open Go Go.Ez Go.RowKit Go.ChangeShapes Go.WideShapes
set_option linter.unusedVariables false
set_option maxRecDepth 100000 in
theorem ev_of_cells {H : Type} {enc : TypeId × Value → H} {W : World} {base : Nat} {sp : Nat → Bool} {held : Bool} {fuel : Nat} {cs : List Value} {x : DataW H × List MemPlace} (hf : DataW.trod enc Try.prog W base sp held fuel 76 cs = some x) :
    ∃ a : Ev, cs = evC a ∧ (-9223372036854775808 ≤ a.1 ∧ a.1 ≤ 9223372036854775807) := by
  obtain ⟨xs, n, _, hx, hl, hlen, hfield⟩ := DataW.trod_struct Try.underlying76 hf
  have hn : Try.prog.cellsOf 76 = 4 := by kernel_rfl
  have hi1 : Try.prog.cellsOf 3 = 1 := by kernel_rfl
  rw [hn] at hl
  match hxs : xs, hlen with
  | [y0, y1, y2, y3], _ =>
    match hcs : cs, hl with
    | [c0, c1, c2, c3], _ =>
      have e0 := hfield 0 _ rfl
      have e1 := hfield 1 _ rfl
      have e2 := hfield 2 _ rfl
      have e3 := hfield 3 _ rfl
      replace e0 : DataW.trod enc Try.prog W base sp held n 3 (([c0, c1, c2, c3].drop 0).take (Try.prog.cellsOf 3)) = some y0 := e0
      replace e1 : DataW.trod enc Try.prog W base sp held n 3 (([c0, c1, c2, c3].drop 1).take (Try.prog.cellsOf 3)) = some y1 := e1
      replace e2 : DataW.trod enc Try.prog W base sp held n 3 (([c0, c1, c2, c3].drop 2).take (Try.prog.cellsOf 3)) = some y2 := e2
      replace e3 : DataW.trod enc Try.prog W base sp held n 3 (([c0, c1, c2, c3].drop 3).take (Try.prog.cellsOf 3)) = some y3 := e3
      rw [hi1] at e0 e1 e2 e3
      obtain ⟨f0, g0, _, w0⟩ := DataW.trod_int Try.underlying3 e0
      obtain ⟨f1, g1, _, _⟩ := DataW.trod_int Try.underlying3 e1
      obtain ⟨f2, g2, _, _⟩ := DataW.trod_int Try.underlying3 e2
      obtain ⟨f3, g3, _, _⟩ := DataW.trod_int Try.underlying3 e3
      replace g0 : [c0] = [Value.int .i64 f0] := g0
      replace g1 : [c1] = [Value.int .i64 f1] := g1
      replace g2 : [c2] = [Value.int .i64 f2] := g2
      replace g3 : [c3] = [Value.int .i64 f3] := g3
      cases g0; cases g1; cases g2; cases g3
      refine ⟨(f0, f1, f2, f3), rfl, ?_⟩
      simp only [Lit.wf, Bool.and_eq_true, decide_eq_true_eq, IntKind.min, IntKind.max, IntKind.bits, IntKind.signed] at w0
      simp at w0
      show -9223372036854775808 ≤ f0 ∧ f0 ≤ 9223372036854775807
      omega
set_option maxRecDepth 100000 in
theorem ops_of_trod {H : Type} {enc : TypeId × Value → H} {W : World} {b0 base : Nat} {r : Reach} {sp : Nat → Bool} {held : Bool} {v : Value} {d : DataW H} {ps : List MemPlace}
    (hval : Value.okWide Try.prog W r b0 22 v) (hd : DataW.Trod enc Try.prog W base sp held 22 v d ps) :
    ∃ l : List OpM, Sl W 7 v l.length (rcells opC l) ∧ l.length ≤ maxLen ∧ ∀ o ∈ l, OpF W o ∧ -9223372036854775808 ≤ o.a ∧ o.a ≤ 9223372036854775807 := by
  refine sl_of_trod (enc := enc) (sz := 7) (t := 22) (e := 32) opC (fun o => OpF W o ∧ -9223372036854775808 ≤ o.a ∧ o.a ≤ 9223372036854775807) (fun _ => rfl) Try.underlying22 (by kernel_rfl) (fun fuel cs x hf => ?_) hval hd (by decide)
  obtain ⟨xs, n, _, hx, hl, hlen, hfield⟩ := DataW.trod_struct Try.underlying32 hf
  have hn : Try.prog.cellsOf 32 = 7 := by kernel_rfl
  have hi1 : Try.prog.cellsOf 3 = 1 := by kernel_rfl
  have hs1 : Try.prog.cellsOf 9 = 1 := by kernel_rfl
  have hb1 : Try.prog.cellsOf 29 = 1 := by kernel_rfl
  have he1 : Try.prog.cellsOf 30 = 1 := by kernel_rfl
  rw [hn] at hl
  match hxs : xs, hlen with
  | [y0, y1, y2, y3, y4, y5, y6], _ =>
    match hcs : cs, hl with
    | [c0, c1, c2, c3, c4, c5, c6], _ =>
      have e0 := hfield 0 _ rfl
      have e1 := hfield 1 _ rfl
      have e2 := hfield 2 _ rfl
      have e3 := hfield 3 _ rfl
      have e4 := hfield 4 _ rfl
      have e5 := hfield 5 _ rfl
      have e6 := hfield 6 _ rfl
      replace e0 : DataW.trod enc Try.prog W base sp held n 3 (([c0, c1, c2, c3, c4, c5, c6].drop 0).take (Try.prog.cellsOf 3)) = some y0 := e0
      replace e1 : DataW.trod enc Try.prog W base sp held n 3 (([c0, c1, c2, c3, c4, c5, c6].drop 1).take (Try.prog.cellsOf 3)) = some y1 := e1
      replace e2 : DataW.trod enc Try.prog W base sp held n 3 (([c0, c1, c2, c3, c4, c5, c6].drop 2).take (Try.prog.cellsOf 3)) = some y2 := e2
      replace e3 : DataW.trod enc Try.prog W base sp held n 9 (([c0, c1, c2, c3, c4, c5, c6].drop 3).take (Try.prog.cellsOf 9)) = some y3 := e3
      replace e4 : DataW.trod enc Try.prog W base sp held n 9 (([c0, c1, c2, c3, c4, c5, c6].drop 4).take (Try.prog.cellsOf 9)) = some y4 := e4
      replace e5 : DataW.trod enc Try.prog W base sp held n 29 (([c0, c1, c2, c3, c4, c5, c6].drop 5).take (Try.prog.cellsOf 29)) = some y5 := e5
      replace e6 : DataW.trod enc Try.prog W base sp held n 30 (([c0, c1, c2, c3, c4, c5, c6].drop 6).take (Try.prog.cellsOf 30)) = some y6 := e6
      rw [hi1] at e0 e1 e2
      rw [hs1] at e3 e4
      rw [hb1] at e5
      rw [he1] at e6
      replace e5 : DataW.trod enc Try.prog W base sp held n 29 [c5] = some y5 := e5
      replace e6 : DataW.trod enc Try.prog W base sp held n 30 [c6] = some y6 := e6
      obtain ⟨f0, g0, _, _⟩ := DataW.trod_int Try.underlying3 e0
      obtain ⟨f1, g1, _, w1⟩ := DataW.trod_int Try.underlying3 e1
      obtain ⟨f2, g2, _, _⟩ := DataW.trod_int Try.underlying3 e2
      obtain ⟨f3, g3, _, _⟩ := DataW.trod_string Try.underlying9 e3
      obtain ⟨f4, g4, _, _⟩ := DataW.trod_string Try.underlying9 e4
      replace g0 : [c0] = [Value.int .i64 f0] := g0
      replace g1 : [c1] = [Value.int .i64 f1] := g1
      replace g2 : [c2] = [Value.int .i64 f2] := g2
      replace g3 : [c3] = [Value.string f3] := g3
      replace g4 : [c4] = [Value.string f4] := g4
      cases g0; cases g1; cases g2; cases g3; cases g4
      obtain ⟨l5, x5, _⟩ := by_of_cells Try.underlying29 Try.underlying5 (by kernel_rfl) e5
      obtain ⟨l6, x6, _, _⟩ := sl_of_cells (enc := enc) (sz := 4) evC (fun _ => True) (fun _ => rfl) Try.underlying30 (by kernel_rfl) (fun fuel cs x hf => by
        obtain ⟨a, ha, _⟩ := ev_of_cells hf
        exact ⟨a, ha, trivial⟩) e6 (by decide)
      obtain ⟨s5, rfl⟩ := x5.sv
      obtain ⟨ao6, cap6, rfl, h6⟩ := id x6
      refine ⟨⟨f0, f1, f2, f3.data.toList, f4.data.toList, s5, l5, (ao6, l6.length, cap6), l6⟩, rfl, ⟨x5, x6⟩, ?_⟩
      simp only [Lit.wf, Bool.and_eq_true, decide_eq_true_eq, IntKind.min, IntKind.max, IntKind.bits, IntKind.signed] at w1
      simp at w1
      show -9223372036854775808 ≤ f1 ∧ f1 ≤ 9223372036854775807
      omega
end Go.Proofs.Ytdoopdbfajgnjaa
