/-
  OmapTakes: the statement, proved for every argument: it returns true, and the arguments read as they did.
-/
import Derived.Test.YtdjgchofnkancaaRows
import Derived.Test.YtdjgchofnkancaaEzRow
import Derived.Test.YtdjgchofnkancaaEzRow2
import Derived.Test.YtdjgchofnkancaaOmN
import Derived.Test.YtdjgchofnkancaaOmRow
namespace Go.Proofs.Ytdjgchofnkancaa
open Go Go.Ez Go.RowKit Go.ChangeShapes Go.WideShapes
set_option linter.unusedVariables false

theorem omapTakes_knob : ownKnob Try.prog.godebug = none := by kernel_rfl
theorem omapTakes_laid : laidOutB Try.prog = true := by kernel_rfl

set_option maxRecDepth 100000 in
theorem omapTakes_lifted (os : Os) (started : os.Started) (H : Type) (enc : TypeId × Value → H) :
    ReturnsInHanded Rows.omapTakesRow.assume Try.checked os 4 .any (Rows.omapTakesSpec.pre6 enc Try.prog Try.f4 Rows.omapTakesRow.domain false) (Rows.omapTakesSpec.post enc Try.prog Try.f4 false true false false) := by
  refine returnsInHanded_of_change (C := Try.checked) omapTakes_knob started (by kernel_rfl) Try.func4
    (ChangeSpec.witness6 (enc := enc) (C := Try.checked) false ⟨#[], #[.slice none 0 0, .int .i64 0, .int .i64 0, .int .i64 0], []⟩ 8 (by kernel_rfl) (by kernel_rfl) (by kernel_rfl) (by kernel_rfl)) ?_
  intro W base args ds gs before hval0 hW hcnd _
  have hval : ∀ (j : Nat) t v, Try.f4.params[j]? = some t → args[j]? = some v → Value.okWide Try.prog W .any base t v := hval0
  have hW' := hW
  obtain ⟨p, q, hA0, hV, rfl, hfz, hnd⟩ := hW
  have hA : DataW.TrodAll enc Try.prog W 0 (fun _ => true) true Try.f4.params.toList args.toList ds p := hA0
  rw [Try.params4] at hA hval
  obtain ⟨v0, vs0, d0, ds0, p0, q0, e0, rfl, rfl, h0, hA1⟩ := trodAll_cons hA
  obtain ⟨v1, vs1, d1, ds1, p1, q1, rfl, rfl, rfl, h1, hA2⟩ := trodAll_cons hA1
  obtain ⟨v2, vs2, d2, ds2, p2, q2, rfl, rfl, rfl, h2, hA3⟩ := trodAll_cons hA2
  obtain ⟨v3, vs3, d3, ds3, p3, q3, rfl, rfl, rfl, h3, hA4⟩ := trodAll_cons hA3
  obtain ⟨rfl, rfl, rfl⟩ := trodAll_nil hA4
  obtain ⟨rfl, rfl⟩ := trodVars_none hV
  have eargs : args = #[v0, v1, v2, v3] := by rw [← Array.toArray_toList (xs := args), e0]
  subst eargs
  obtain ⟨l0, x0, m0, e0m⟩ := calls_of_trod (hval 0 40 v0 rfl rfl) h0
  obtain ⟨n1, rfl, rfl, rfl, f1⟩ := open_int Try.underlying3 (hval 1 3 v1 rfl rfl) h1
  obtain ⟨n2, rfl, rfl, rfl, f2⟩ := open_int Try.underlying3 (hval 2 3 v2 rfl rfl) h2
  obtain ⟨n3, rfl, rfl, rfl, f3⟩ := open_int Try.underlying3 (hval 3 3 v3 rfl rfl) h3
  refine Calls.mono (takes_spec (R := fun v W' => v = .bool true ∧ Below W.heap.size W W') x0 rfl m0 fun w' hw => ⟨rfl, hw⟩) ?_
  rintro e W' ⟨v, rfl, rfl, hb⟩
  exact ⟨_, rfl, post_true (tb := 4) hW' omapTakes_laid (by kernel_rfl) rfl (by kernel_rfl) Try.underlying4 rfl hb⟩

theorem omapTakes_holds : Rows.OmapTakesSaid :=
  OpenClaim.holds_of_wide 4 Try.f4 rfl rfl rfl rfl rfl rfl rfl ⟨rfl, rfl, rfl, rfl, rfl⟩ rfl rfl rfl rfl rfl (by kernel_rfl) Try.func4 (by kernel_rfl)
    (of_decide_eq_true (by kernel_rfl)) (by unfold Func.isWrapper; first | (rw [if_pos (by decide +kernel)]; kernel_rfl) | (rw [if_neg (by decide +kernel)]; exact ⟨rfl, rfl⟩))
    (fun os started H enc _ => omapTakes_lifted os started H enc)

#print axioms omapTakes_holds
end Go.Proofs.Ytdjgchofnkancaa
