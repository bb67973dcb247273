/-
  TokenApart: the statement, proved for every argument: it returns true, and the arguments read as they did.
-/
import Derived.Test.YtknbnfpdcbpoeaaRows
import Derived.Test.YtknbnfpdcbpoeaaEzRow
import Derived.Test.YtknbnfpdcbpoeaaTokE
import Derived.Test.YtknbnfpdcbpoeaaTokR
namespace Go.Proofs.Ytknbnfpdcbpoeaa
open Go Go.Ez Go.RowKit Go.ChangeShapes Go.WideShapes
set_option linter.unusedVariables false

theorem tokenApart_knob : ownKnob Try.prog.godebug = none := by kernel_rfl
theorem tokenApart_laid : laidOutB Try.prog = true := by kernel_rfl

set_option maxRecDepth 100000 in
theorem tokenApart_lifted (os : Os) (started : os.Started) (H : Type) (enc : TypeId × Value → H) :
    ReturnsInHanded Rows.tokenApartRow.assume Try.checked os 6 .any (Rows.tokenApartSpec.pre6 enc Try.prog Try.f6 Rows.tokenApartRow.domain false) (Rows.tokenApartSpec.post enc Try.prog Try.f6 false true false false) := by
  refine returnsInHanded_of_change (C := Try.checked) tokenApart_knob started (by kernel_rfl) Try.func6
    (ChangeSpec.witness6 (enc := enc) (C := Try.checked) false ⟨#[], #[.agg #[.string ⟨#[]⟩, .int .i64 0, .int .i64 0, .string ⟨#[]⟩], .agg #[.string ⟨#[]⟩, .int .i64 0, .int .i64 0, .string ⟨#[]⟩]], []⟩ 8 (by kernel_rfl) (by kernel_rfl) (by kernel_rfl) (by kernel_rfl)) ?_
  intro W base args ds gs before hval0 hW hcnd _
  have hval : ∀ (j : Nat) t v, Try.f6.params[j]? = some t → args[j]? = some v → Value.okWide Try.prog W .any base t v := hval0
  have hW' := hW
  obtain ⟨p, q, hA0, hV, rfl, hfz, hnd⟩ := hW
  have hA : DataW.TrodAll enc Try.prog W 0 (fun _ => true) true Try.f6.params.toList args.toList ds p := hA0
  rw [Try.params6] at hA hval
  obtain ⟨v0, vs0, d0, ds0, p0, q0, e0, rfl, rfl, h0, hA1⟩ := trodAll_cons hA
  obtain ⟨v1, vs1, d1, ds1, p1, q1, rfl, rfl, rfl, h1, hA2⟩ := trodAll_cons hA1
  obtain ⟨rfl, rfl, rfl⟩ := trodAll_nil hA2
  obtain ⟨rfl, rfl⟩ := trodVars_none hV
  have eargs : args = #[v0, v1] := by rw [← Array.toArray_toList (xs := args), e0]
  subst eargs
  obtain ⟨u0, f0, t0, k0, rfl, lu0, lk0⟩ := tk_of_trod (hval 0 42 v0 rfl rfl) h0
  obtain ⟨u1, f1, t1, k1, rfl, lu1, lk1⟩ := tk_of_trod (hval 1 42 v1 rfl rfl) h1
  refine Calls.mono (apart_spec (R := fun v W' => v = .bool true ∧ Below W.heap.size W W') lu0 lk0 lu1 lk1 fun w' hw => ⟨rfl, hw⟩) ?_
  rintro e W' ⟨v, rfl, rfl, hb⟩
  exact ⟨_, rfl, post_true (tb := 4) hW' tokenApart_laid (by kernel_rfl) rfl (by kernel_rfl) Try.underlying4 rfl hb⟩

theorem tokenApart_holds : Rows.TokenApartSaid :=
  OpenClaim.holds_of_wide 6 Try.f6 rfl rfl rfl rfl rfl rfl rfl ⟨rfl, rfl, rfl, rfl, rfl⟩ rfl rfl rfl rfl rfl (by kernel_rfl) Try.func6 (by kernel_rfl)
    (of_decide_eq_true (by kernel_rfl)) (by unfold Func.isWrapper; first | (rw [if_pos (by decide +kernel)]; kernel_rfl) | (rw [if_neg (by decide +kernel)]; exact ⟨rfl, rfl⟩))
    (fun os started H enc _ => tokenApart_lifted os started H enc)

#print axioms tokenApart_holds
end Go.Proofs.Ytknbnfpdcbpoeaa
