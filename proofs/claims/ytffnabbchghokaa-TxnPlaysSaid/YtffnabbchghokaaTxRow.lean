/-
  TRANSACTIONS: arguments that are slices of the law's operations, opened.
-/
import Derived.Test.YtffnabbchghokaaEzRow2
import Derived.Test.YtffnabbchghokaaTxJ
namespace Go.Proofs.Ytffnabbchghokaa
open Go Go.Ez Go.RowKit Go.ChangeShapes Go.WideShapes
set_option linter.unusedVariables false

set_option maxRecDepth 100000 in
theorem tops_of_trod {H : Type} {enc : TypeId × Value → H} {W : World} {b0 base : Nat} {r : Reach} {sp : Nat → Bool} {held : Bool} {v : Value} {d : DataW H} {ps : List MemPlace}
    (hval : Value.okWide Try.prog W r b0 68 v) (hd : DataW.Trod enc Try.prog W base sp held 68 v d ps) :
    ∃ l : List (TOp), Sl W 4 v l.length (rcells TOp.cells l) ∧ l.length ≤ maxLen ∧ ∀ o ∈ l, True := by
  refine sl_of_trod (enc := enc) (sz := 4) (t := 68) (e := 75) TOp.cells (fun _ => True) (fun _ => rfl) Try.underlying68 (by kernel_rfl) (fun fuel cs x hf => ?_) hval hd (by decide)
  obtain ⟨xs, n, _, hx, hl, hlen, hfield⟩ := DataW.trod_struct Try.underlying75 hf
  have hn : Try.prog.cellsOf 75 = 4 := by kernel_rfl
  have hi1 : Try.prog.cellsOf 3 = 1 := by kernel_rfl
  have hs1 : Try.prog.cellsOf 9 = 1 := by kernel_rfl
  rw [hn] at hl
  match hxs : xs, hlen with
  | [y0, y1, y2, y3], _ =>
    match hcs : cs, hl with
    | [c0, c1, c2, c3], _ =>
      have e0 := hfield 0 _ rfl
      have e1 := hfield 1 _ rfl
      have e2 := hfield 2 _ rfl
      have e3 := hfield 3 _ rfl
      replace e0 : DataW.trod enc Try.prog W base sp held n 3 (([c0, c1, c2, c3].drop 0).take (Try.prog.cellsOf 3)) = some y0 := e0
      replace e1 : DataW.trod enc Try.prog W base sp held n 9 (([c0, c1, c2, c3].drop 1).take (Try.prog.cellsOf 9)) = some y1 := e1
      replace e2 : DataW.trod enc Try.prog W base sp held n 9 (([c0, c1, c2, c3].drop 2).take (Try.prog.cellsOf 9)) = some y2 := e2
      replace e3 : DataW.trod enc Try.prog W base sp held n 9 (([c0, c1, c2, c3].drop 3).take (Try.prog.cellsOf 9)) = some y3 := e3
      rw [hi1] at e0
      rw [hs1] at e1 e2 e3
      obtain ⟨f0, g0, _, _⟩ := DataW.trod_int Try.underlying3 e0
      obtain ⟨f1, g1, _, _⟩ := DataW.trod_string Try.underlying9 e1
      obtain ⟨f2, g2, _, _⟩ := DataW.trod_string Try.underlying9 e2
      obtain ⟨f3, g3, _, _⟩ := DataW.trod_string Try.underlying9 e3
      replace g0 : [c0] = [Value.int .i64 f0] := g0
      replace g1 : [c1] = [Value.string f1] := g1
      replace g2 : [c2] = [Value.string f2] := g2
      replace g3 : [c3] = [Value.string f3] := g3
      cases g0; cases g1; cases g2; cases g3
      exact ⟨⟨f0, f1.data.toList, f2.data.toList, f3.data.toList⟩, rfl, trivial⟩
end Go.Proofs.Ytffnabbchghokaa
