/-
  TOKENS: an argument that is a token, opened.
-/
import Derived.Test.YtknbnfpdcbpoeaaEzRow
import Derived.Test.YtknbnfpdcbpoeaaTokB
namespace Go.Proofs.Ytknbnfpdcbpoeaa
open Go Go.Ez Go.RowKit Go.ChangeShapes Go.WideShapes
set_option linter.unusedVariables false

theorem tk_of_trod {H : Type} {enc : TypeId × Value → H} {W : World} {b0 base : Nat} {r : Reach} {sp : Nat → Bool} {held : Bool} {v : Value} {d : DataW H} {ps : List MemPlace}
    (hval : Value.okWide Try.prog W r b0 42 v) (hd : DataW.Trod enc Try.prog W base sp held 42 v d ps) :
    ∃ (u : List UInt8) (f t : Int) (k : List UInt8), v = tkV u f t k ∧ u.length ≤ 9223372036854775807 ∧ k.length ≤ 9223372036854775807 := by
  obtain ⟨cs, rfl, hsz⟩ := okWide_struct Try.underlying42 hval
  obtain ⟨fuel, hf⟩ := hd
  have hcells : (Value.agg cs).cells.toList = cs.toList := rfl
  rw [hcells] at hf
  obtain ⟨xs, n, _, hx, hl, hlen, hfield⟩ := DataW.trod_struct Try.underlying42 hf
  have h4 : Try.prog.cellsOf 42 = 4 := by kernel_rfl
  have hs1 : Try.prog.cellsOf 9 = 1 := by kernel_rfl
  have hi1 : Try.prog.cellsOf 3 = 1 := by kernel_rfl
  rw [h4] at hl
  match hxs : xs, hlen with
  | [y0, y1, y2, y3], _ =>
    match hcs : cs.toList, hl with
    | [c0, c1, c2, c3], _ =>
      rw [hcs] at hfield
      have e0 := hfield 0 _ rfl
      have e1 := hfield 1 _ rfl
      have e2 := hfield 2 _ rfl
      have e3 := hfield 3 _ rfl
      replace e0 : DataW.trod enc Try.prog W base sp held n 9 (([c0, c1, c2, c3].drop 0).take (Try.prog.cellsOf 9)) = some y0 := e0
      replace e1 : DataW.trod enc Try.prog W base sp held n 3 (([c0, c1, c2, c3].drop 1).take (Try.prog.cellsOf 3)) = some y1 := e1
      replace e2 : DataW.trod enc Try.prog W base sp held n 3 (([c0, c1, c2, c3].drop 2).take (Try.prog.cellsOf 3)) = some y2 := e2
      replace e3 : DataW.trod enc Try.prog W base sp held n 9 (([c0, c1, c2, c3].drop 3).take (Try.prog.cellsOf 9)) = some y3 := e3
      rw [hs1] at e0 e3
      rw [hi1] at e1 e2
      obtain ⟨s0, g0, _, m0⟩ := DataW.trod_string Try.underlying9 e0
      obtain ⟨n1, g1, _, _⟩ := DataW.trod_int Try.underlying3 e1
      obtain ⟨n2, g2, _, _⟩ := DataW.trod_int Try.underlying3 e2
      obtain ⟨s3, g3, _, m3⟩ := DataW.trod_string Try.underlying9 e3
      replace g0 : [c0] = [Value.string s0] := g0
      replace g1 : [c1] = [Value.int .i64 n1] := g1
      replace g2 : [c2] = [Value.int .i64 n2] := g2
      replace g3 : [c3] = [Value.string s3] := g3
      cases g0; cases g1; cases g2; cases g3
      refine ⟨s0.data.toList, n1, n2, s3.data.toList, ?_, ?_, ?_⟩
      · have : cs = #[.string s0, .int .i64 n1, .int .i64 n2, .string s3] := by rw [← Array.toArray_toList (xs := cs), hcs]
        rw [this]
      · have : s0.size = s0.data.toList.length := rfl
        unfold maxLen at m0
        omega
      · have : s3.size = s3.data.toList.length := rfl
        unfold maxLen at m3
        omega

end Go.Proofs.Ytknbnfpdcbpoeaa
