/-
  VERSIONS: arguments that are slices of the law's operations, opened.
-/
import Derived.Test.YtffnabbchghokaaEzRow2
import Derived.Test.YtffnabbchghokaaVerE
namespace Go.Proofs.Ytffnabbchghokaa
open Go Go.Ez Go.RowKit Go.ChangeShapes Go.WideShapes
set_option linter.unusedVariables false

set_option maxRecDepth 100000 in
theorem vops_of_trod {H : Type} {enc : TypeId × Value → H} {W : World} {b0 base : Nat} {r : Reach} {sp : Nat → Bool} {held : Bool} {v : Value} {d : DataW H} {ps : List MemPlace}
    (hval : Value.okWide Try.prog W r b0 34 v) (hd : DataW.Trod enc Try.prog W base sp held 34 v d ps) :
    ∃ l : List (VOp), Sl W 5 v l.length (rcells VOp.cells l) ∧ l.length ≤ maxLen ∧ ∀ o ∈ l, True := by
  refine sl_of_trod (enc := enc) (sz := 5) (t := 34) (e := 40) VOp.cells (fun _ => True) (fun _ => rfl) Try.underlying34 (by kernel_rfl) (fun fuel cs x hf => ?_) hval hd (by decide)
  obtain ⟨xs, n, _, hx, hl, hlen, hfield⟩ := DataW.trod_struct Try.underlying40 hf
  have hn : Try.prog.cellsOf 40 = 5 := by kernel_rfl
  have hi1 : Try.prog.cellsOf 3 = 1 := by kernel_rfl
  have hs1 : Try.prog.cellsOf 9 = 1 := by kernel_rfl
  rw [hn] at hl
  match hxs : xs, hlen with
  | [y0, y1, y2, y3, y4], _ =>
    match hcs : cs, hl with
    | [c0, c1, c2, c3, c4], _ =>
      have e0 := hfield 0 _ rfl
      have e1 := hfield 1 _ rfl
      have e2 := hfield 2 _ rfl
      have e3 := hfield 3 _ rfl
      have e4 := hfield 4 _ rfl
      replace e0 : DataW.trod enc Try.prog W base sp held n 3 (([c0, c1, c2, c3, c4].drop 0).take (Try.prog.cellsOf 3)) = some y0 := e0
      replace e1 : DataW.trod enc Try.prog W base sp held n 3 (([c0, c1, c2, c3, c4].drop 1).take (Try.prog.cellsOf 3)) = some y1 := e1
      replace e2 : DataW.trod enc Try.prog W base sp held n 9 (([c0, c1, c2, c3, c4].drop 2).take (Try.prog.cellsOf 9)) = some y2 := e2
      replace e3 : DataW.trod enc Try.prog W base sp held n 9 (([c0, c1, c2, c3, c4].drop 3).take (Try.prog.cellsOf 9)) = some y3 := e3
      replace e4 : DataW.trod enc Try.prog W base sp held n 9 (([c0, c1, c2, c3, c4].drop 4).take (Try.prog.cellsOf 9)) = some y4 := e4
      rw [hi1] at e0 e1
      rw [hs1] at e2 e3 e4
      obtain ⟨f0, g0, _, _⟩ := DataW.trod_int Try.underlying3 e0
      obtain ⟨f1, g1, _, _⟩ := DataW.trod_int Try.underlying3 e1
      obtain ⟨f2, g2, _, _⟩ := DataW.trod_string Try.underlying9 e2
      obtain ⟨f3, g3, _, _⟩ := DataW.trod_string Try.underlying9 e3
      obtain ⟨f4, g4, _, _⟩ := DataW.trod_string Try.underlying9 e4
      replace g0 : [c0] = [Value.int .i64 f0] := g0
      replace g1 : [c1] = [Value.int .i64 f1] := g1
      replace g2 : [c2] = [Value.string f2] := g2
      replace g3 : [c3] = [Value.string f3] := g3
      replace g4 : [c4] = [Value.string f4] := g4
      cases g0; cases g1; cases g2; cases g3; cases g4
      exact ⟨⟨f0, f1, f2.data.toList, f3.data.toList, f4.data.toList⟩, rfl, trivial⟩
end Go.Proofs.Ytffnabbchghokaa
