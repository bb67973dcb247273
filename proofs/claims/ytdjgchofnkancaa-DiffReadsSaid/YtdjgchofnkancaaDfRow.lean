/-
  DIFFERENCES: an argument that is a slice of pairs, opened.
-/
import Derived.Test.YtdjgchofnkancaaEzRow2
import Derived.Test.YtdjgchofnkancaaDfB
namespace Go.Proofs.Ytdjgchofnkancaa
open Go Go.Ez Go.RowKit Go.ChangeShapes Go.WideShapes
set_option linter.unusedVariables false

set_option maxRecDepth 100000 in
theorem pairs_of_trod {H : Type} {enc : TypeId × Value → H} {W : World} {b0 base : Nat} {r : Reach} {sp : Nat → Bool} {held : Bool} {v : Value} {d : DataW H} {ps : List MemPlace}
    (hval : Value.okWide Try.prog W r b0 83 v) (hd : DataW.Trod enc Try.prog W base sp held 83 v d ps) :
    ∃ l : List (Txt × Txt), Sl W 2 v l.length (pcells l) ∧ l.length ≤ maxLen ∧ ∀ o ∈ l, o.1.length ≤ maxLen ∧ o.2.length ≤ maxLen := by
  refine sl_of_trod (enc := enc) (sz := 2) (t := 83) (e := 136) (fun p : Txt × Txt => [Enc.enc p.1, Enc.enc p.2]) (fun o => o.1.length ≤ maxLen ∧ o.2.length ≤ maxLen) (fun _ => rfl) Try.underlying83 (by kernel_rfl) (fun fuel cs x hf => ?_) hval hd (by decide)
  obtain ⟨xs, n, _, hx, hl, hlen, hfield⟩ := DataW.trod_struct Try.underlying136 hf
  have h2 : Try.prog.cellsOf 136 = 2 := by kernel_rfl
  have hs1 : Try.prog.cellsOf 9 = 1 := by kernel_rfl
  rw [h2] at hl
  match hxs : xs, hlen with
  | [y0, y1], _ =>
    match hcs : cs, hl with
    | [c0, c1], _ =>
      have e0 := hfield 0 _ rfl
      have e1 := hfield 1 _ rfl
      replace e0 : DataW.trod enc Try.prog W base sp held n 9 (([c0, c1].drop 0).take (Try.prog.cellsOf 9)) = some y0 := e0
      replace e1 : DataW.trod enc Try.prog W base sp held n 9 (([c0, c1].drop 1).take (Try.prog.cellsOf 9)) = some y1 := e1
      rw [hs1] at e0 e1
      obtain ⟨s0, g0, _, m0⟩ := DataW.trod_string Try.underlying9 e0
      obtain ⟨s1, g1, _, m1⟩ := DataW.trod_string Try.underlying9 e1
      replace g0 : [c0] = [Value.string s0] := g0
      replace g1 : [c1] = [Value.string s1] := g1
      cases g0; cases g1
      exact ⟨(s0.data.toList, s1.data.toList), rfl, m0, m1⟩
end Go.Proofs.Ytdjgchofnkancaa
