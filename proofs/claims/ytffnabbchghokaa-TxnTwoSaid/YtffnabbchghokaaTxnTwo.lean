/-
  TxnTwo: the statement, proved for every argument: it returns true, and the arguments read as they did.
-/
import Derived.Test.YtffnabbchghokaaRows
import Derived.Test.YtffnabbchghokaaEzRow
import Derived.Test.YtffnabbchghokaaEzRow2
import Derived.Test.YtffnabbchghokaaTxJ
import Derived.Test.YtffnabbchghokaaVerRow
import Derived.Test.YtffnabbchghokaaTxRow
namespace Go.Proofs.Ytffnabbchghokaa
open Go Go.Ez Go.RowKit Go.ChangeShapes Go.WideShapes
set_option linter.unusedVariables false

theorem txnTwo_knob : ownKnob Try.prog.godebug = none := by kernel_rfl
theorem txnTwo_laid : laidOutB Try.prog = true := by kernel_rfl

set_option maxRecDepth 100000 in
theorem txnTwo_lifted (os : Os) (started : os.Started) (H : Type) (enc : TypeId × Value → H) :
    ReturnsInHanded Rows.txnTwoRow.assume Try.checked os 11 .any (Rows.txnTwoSpec.pre6 enc Try.prog Try.f11 Rows.txnTwoRow.domain false) (Rows.txnTwoSpec.post enc Try.prog Try.f11 false true false false) := by
  refine returnsInHanded_of_change (C := Try.checked) txnTwo_knob started (by kernel_rfl) Try.func11
    (ChangeSpec.witness6 (enc := enc) (C := Try.checked) false ⟨#[], #[.slice none 0 0, .int .i64 0, .slice none 0 0, .slice none 0 0, .string ⟨#[]⟩], []⟩ 8 (by kernel_rfl) (by kernel_rfl) (by kernel_rfl) (by kernel_rfl)) ?_
  intro W base args ds gs before hval0 hW hcnd _
  have hval : ∀ (j : Nat) t v, Try.f11.params[j]? = some t → args[j]? = some v → Value.okWide Try.prog W .any base t v := hval0
  have hW' := hW
  obtain ⟨p, q, hA0, hV, rfl, hfz, hnd⟩ := hW
  have hA : DataW.TrodAll enc Try.prog W 0 (fun _ => true) true Try.f11.params.toList args.toList ds p := hA0
  rw [Try.params11] at hA hval
  obtain ⟨v0, vs0, d0, ds0, p0, q0, e0, rfl, rfl, h0, hA1⟩ := trodAll_cons hA
  obtain ⟨v1, vs1, d1, ds1, p1, q1, rfl, rfl, rfl, h1, hA2⟩ := trodAll_cons hA1
  obtain ⟨v2, vs2, d2, ds2, p2, q2, rfl, rfl, rfl, h2, hA3⟩ := trodAll_cons hA2
  obtain ⟨v3, vs3, d3, ds3, p3, q3, rfl, rfl, rfl, h3, hA4⟩ := trodAll_cons hA3
  obtain ⟨v4, vs4, d4, ds4, p4, q4, rfl, rfl, rfl, h4, hA5⟩ := trodAll_cons hA4
  obtain ⟨rfl, rfl, rfl⟩ := trodAll_nil hA5
  obtain ⟨rfl, rfl⟩ := trodVars_none hV
  have eargs : args = #[v0, v1, v2, v3, v4] := by rw [← Array.toArray_toList (xs := args), e0]
  subst eargs
  obtain ⟨l0, x0, m0, e0m⟩ := vops_of_trod (hval 0 34 v0 rfl rfl) h0
  obtain ⟨n1, rfl, rfl, rfl, f1⟩ := open_int Try.underlying3 (hval 1 3 v1 rfl rfl) h1
  obtain ⟨l2, x2, m2, e2m⟩ := tops_of_trod (hval 2 68 v2 rfl rfl) h2
  obtain ⟨l3, x3, m3, e3m⟩ := tops_of_trod (hval 3 68 v3 rfl rfl) h3
  obtain ⟨s4, rfl⟩ := okWide_string Try.underlying9 (hval 4 9 v4 rfl rfl)
  obtain ⟨c4, rfl⟩ : ∃ l : Txt, s4 = ⟨l.toArray⟩ := ⟨s4.data.toList, rfl⟩
  refine Calls.mono (ttwo_spec (RR := fun v W' => v = .bool true ∧ Below W.heap.size W W') x0 rfl x2 rfl x3 rfl fun w' hw => ⟨rfl, hw⟩) ?_
  rintro e W' ⟨v, rfl, rfl, hb⟩
  exact ⟨_, rfl, post_true (tb := 4) hW' txnTwo_laid (by kernel_rfl) rfl (by kernel_rfl) Try.underlying4 rfl hb⟩

theorem txnTwo_holds : Rows.TxnTwoSaid :=
  OpenClaim.holds_of_wide 11 Try.f11 rfl rfl rfl rfl rfl rfl rfl ⟨rfl, rfl, rfl, rfl, rfl⟩ rfl rfl rfl rfl rfl (by kernel_rfl) Try.func11 (by kernel_rfl)
    (of_decide_eq_true (by kernel_rfl)) (by unfold Func.isWrapper; first | (rw [if_pos (by decide +kernel)]; kernel_rfl) | (rw [if_neg (by decide +kernel)]; exact ⟨rfl, rfl⟩))
    (fun os started H enc _ => txnTwo_lifted os started H enc)

#print axioms txnTwo_holds
end Go.Proofs.Ytffnabbchghokaa
