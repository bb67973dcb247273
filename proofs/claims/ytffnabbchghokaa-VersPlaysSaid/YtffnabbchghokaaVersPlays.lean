/-
  VersPlays: the statement, proved for every argument: it returns true, and the arguments read as they did.
-/
import Derived.Test.YtffnabbchghokaaRows
import Derived.Test.YtffnabbchghokaaEzRow
import Derived.Test.YtffnabbchghokaaEzRow2
import Derived.Test.YtffnabbchghokaaVerV
import Derived.Test.YtffnabbchghokaaVerRow
namespace Go.Proofs.Ytffnabbchghokaa
open Go Go.Ez Go.RowKit Go.ChangeShapes Go.WideShapes
set_option linter.unusedVariables false

theorem versPlays_knob : ownKnob Try.prog.godebug = none := by kernel_rfl
theorem versPlays_laid : laidOutB Try.prog = true := by kernel_rfl

set_option maxRecDepth 100000 in
theorem versPlays_lifted (os : Os) (started : os.Started) (H : Type) (enc : TypeId × Value → H) :
    ReturnsInHanded Rows.versPlaysRow.assume Try.checked os 7 .any (Rows.versPlaysSpec.pre6 enc Try.prog Try.f7 Rows.versPlaysRow.domain false) (Rows.versPlaysSpec.post enc Try.prog Try.f7 false true false false) := by
  refine returnsInHanded_of_change (C := Try.checked) versPlays_knob started (by kernel_rfl) Try.func7
    (ChangeSpec.witness6 (enc := enc) (C := Try.checked) false ⟨#[], #[.slice none 0 0], []⟩ 8 (by kernel_rfl) (by kernel_rfl) (by kernel_rfl) (by kernel_rfl)) ?_
  intro W base args ds gs before hval0 hW hcnd _
  have hval : ∀ (j : Nat) t v, Try.f7.params[j]? = some t → args[j]? = some v → Value.okWide Try.prog W .any base t v := hval0
  have hW' := hW
  obtain ⟨p, q, hA0, hV, rfl, hfz, hnd⟩ := hW
  have hA : DataW.TrodAll enc Try.prog W 0 (fun _ => true) true Try.f7.params.toList args.toList ds p := hA0
  rw [Try.params7] at hA hval
  obtain ⟨v0, vs0, d0, ds0, p0, q0, e0, rfl, rfl, h0, hA1⟩ := trodAll_cons hA
  obtain ⟨rfl, rfl, rfl⟩ := trodAll_nil hA1
  obtain ⟨rfl, rfl⟩ := trodVars_none hV
  have eargs : args = #[v0] := by rw [← Array.toArray_toList (xs := args), e0]
  subst eargs
  obtain ⟨l0, x0, m0, e0m⟩ := vops_of_trod (hval 0 34 v0 rfl rfl) h0
  refine Calls.mono (plays_spec (RR := fun v W' => v = .bool true ∧ Below W.heap.size W W') x0 rfl fun w' hw => ⟨rfl, hw⟩) ?_
  rintro e W' ⟨v, rfl, rfl, hb⟩
  exact ⟨_, rfl, post_true (tb := 4) hW' versPlays_laid (by kernel_rfl) rfl (by kernel_rfl) Try.underlying4 rfl hb⟩

theorem versPlays_holds : Rows.VersPlaysSaid :=
  OpenClaim.holds_of_wide 7 Try.f7 rfl rfl rfl rfl rfl rfl rfl ⟨rfl, rfl, rfl, rfl, rfl⟩ rfl rfl rfl rfl rfl (by kernel_rfl) Try.func7 (by kernel_rfl)
    (of_decide_eq_true (by kernel_rfl)) (by unfold Func.isWrapper; first | (rw [if_pos (by decide +kernel)]; kernel_rfl) | (rw [if_neg (by decide +kernel)]; exact ⟨rfl, rfl⟩))
    (fun os started H enc _ => versPlays_lifted os started H enc)

#print axioms versPlays_holds
end Go.Proofs.Ytffnabbchghokaa
