/-
  TokenReads: the statement, proved for every argument: it returns true, and the arguments read as they did.
-/
import Derived.Test.YtknbnfpdcbpoeaaRows
import Derived.Test.YtknbnfpdcbpoeaaEzRow
import Derived.Test.YtknbnfpdcbpoeaaTokN
import Derived.Test.YtknbnfpdcbpoeaaTokR
namespace Go.Proofs.Ytknbnfpdcbpoeaa
open Go Go.Ez Go.RowKit Go.ChangeShapes Go.WideShapes
set_option linter.unusedVariables false

theorem tokenReads_knob : ownKnob Try.prog.godebug = none := by kernel_rfl
theorem tokenReads_laid : laidOutB Try.prog = true := by kernel_rfl

set_option maxRecDepth 100000 in
theorem tokenReads_lifted (os : Os) (started : os.Started) (H : Type) (enc : TypeId × Value → H) :
    ReturnsInHanded Rows.tokenReadsRow.assume Try.checked os 7 .any (Rows.tokenReadsSpec.pre6 enc Try.prog Try.f7 Rows.tokenReadsRow.domain false) (Rows.tokenReadsSpec.post enc Try.prog Try.f7 false true false false) := by
  refine returnsInHanded_of_change (C := Try.checked) tokenReads_knob started (by kernel_rfl) Try.func7
    (ChangeSpec.witness6 (enc := enc) (C := Try.checked) false ⟨#[], #[.agg #[.string ⟨#[]⟩, .int .i64 0, .int .i64 0, .string ⟨#[]⟩], .string ⟨#[]⟩], []⟩ 8 (by kernel_rfl) (by kernel_rfl) (by kernel_rfl) (by kernel_rfl)) ?_
  intro W base args ds gs before hval0 hW hcnd _
  have hval : ∀ (j : Nat) t v, Try.f7.params[j]? = some t → args[j]? = some v → Value.okWide Try.prog W .any base t v := hval0
  have hW' := hW
  obtain ⟨p, q, hA0, hV, rfl, hfz, hnd⟩ := hW
  have hA : DataW.TrodAll enc Try.prog W 0 (fun _ => true) true Try.f7.params.toList args.toList ds p := hA0
  rw [Try.params7] at hA hval
  obtain ⟨v0, vs0, d0, ds0, p0, q0, e0, rfl, rfl, h0, hA1⟩ := trodAll_cons hA
  obtain ⟨v1, vs1, d1, ds1, p1, q1, rfl, rfl, rfl, h1, hA2⟩ := trodAll_cons hA1
  obtain ⟨rfl, rfl, rfl⟩ := trodAll_nil hA2
  obtain ⟨rfl, rfl⟩ := trodVars_none hV
  have eargs : args = #[v0, v1] := by rw [← Array.toArray_toList (xs := args), e0]
  subst eargs
  obtain ⟨u0, f0, t0, k0, rfl, lu0, lk0⟩ := tk_of_trod (hval 0 42 v0 rfl rfl) h0
  obtain ⟨s1, rfl⟩ := okWide_string Try.underlying9 (hval 1 9 v1 rfl rfl)
  obtain ⟨l1, rfl⟩ : ∃ l : List UInt8, s1 = ⟨l.toArray⟩ := ⟨_, strL_of s1⟩
  refine Calls.mono (reads22_spec (R := fun v W' => v = .bool true ∧ Below W.heap.size W W') lu0 lk0 fun w' hw => ⟨rfl, hw⟩) ?_
  rintro e W' ⟨v, rfl, rfl, hb⟩
  exact ⟨_, rfl, post_true (tb := 4) hW' tokenReads_laid (by kernel_rfl) rfl (by kernel_rfl) Try.underlying4 rfl hb⟩

theorem tokenReads_holds : Rows.TokenReadsSaid :=
  OpenClaim.holds_of_wide 7 Try.f7 rfl rfl rfl rfl rfl rfl rfl ⟨rfl, rfl, rfl, rfl, rfl⟩ rfl rfl rfl rfl rfl (by kernel_rfl) Try.func7 (by kernel_rfl)
    (of_decide_eq_true (by kernel_rfl)) (by unfold Func.isWrapper; first | (rw [if_pos (by decide +kernel)]; kernel_rfl) | (rw [if_neg (by decide +kernel)]; exact ⟨rfl, rfl⟩))
    (fun os started H enc _ => tokenReads_lifted os started H enc)

#print axioms tokenReads_holds
end Go.Proofs.Ytknbnfpdcbpoeaa
