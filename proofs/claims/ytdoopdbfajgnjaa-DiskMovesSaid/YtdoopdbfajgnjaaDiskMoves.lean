/-
  DiskMoves: the statement, proved for every argument: it returns true, and the arguments read as they did.
-/
import Derived.Test.YtdoopdbfajgnjaaRows
import Derived.Test.YtdoopdbfajgnjaaEzRow
import Derived.Test.YtdoopdbfajgnjaaEzRow2
import Derived.Test.YtdoopdbfajgnjaaDkI
import Derived.Test.YtdoopdbfajgnjaaDkRow
namespace Go.Proofs.Ytdoopdbfajgnjaa
open Go Go.Ez Go.RowKit Go.ChangeShapes Go.WideShapes
set_option linter.unusedVariables false

theorem diskMoves_knob : ownKnob Try.prog.godebug = none := by kernel_rfl
theorem diskMoves_laid : laidOutB Try.prog = true := by kernel_rfl

set_option maxRecDepth 100000 in
theorem diskMoves_lifted (os : Os) (started : os.Started) (H : Type) (enc : TypeId × Value → H) :
    ReturnsInHanded Rows.diskMovesRow.assume Try.checked os 4 .any (Rows.diskMovesSpec.pre6 enc Try.prog Try.f4 Rows.diskMovesRow.domain false) (Rows.diskMovesSpec.post enc Try.prog Try.f4 false true false false) := by
  refine returnsInHanded_of_change (C := Try.checked) diskMoves_knob started (by kernel_rfl) Try.func4
    (ChangeSpec.witness6 (enc := enc) (C := Try.checked) false ⟨#[], #[.slice none 0 0, .string ⟨#[]⟩, .string ⟨#[]⟩], []⟩ 8 (by kernel_rfl) (by kernel_rfl) (by kernel_rfl) (by kernel_rfl)) ?_
  intro W base args ds gs before hval0 hW hcnd _
  have hval : ∀ (j : Nat) t v, Try.f4.params[j]? = some t → args[j]? = some v → Value.okWide Try.prog W .any base t v := hval0
  have hW' := hW
  obtain ⟨p, q, hA0, hV, rfl, hfz, hnd⟩ := hW
  have hA : DataW.TrodAll enc Try.prog W 0 (fun _ => true) true Try.f4.params.toList args.toList ds p := hA0
  rw [Try.params4] at hA hval
  obtain ⟨v0, vs0, d0, ds0, p0, q0, e0, rfl, rfl, h0, hA1⟩ := trodAll_cons hA
  obtain ⟨v1, vs1, d1, ds1, p1, q1, rfl, rfl, rfl, h1, hA2⟩ := trodAll_cons hA1
  obtain ⟨v2, vs2, d2, ds2, p2, q2, rfl, rfl, rfl, h2, hA3⟩ := trodAll_cons hA2
  obtain ⟨rfl, rfl, rfl⟩ := trodAll_nil hA3
  obtain ⟨rfl, rfl⟩ := trodVars_none hV
  have eargs : args = #[v0, v1, v2] := by rw [← Array.toArray_toList (xs := args), e0]
  subst eargs
  obtain ⟨l0, x0, m0, e0m⟩ := ops_of_trod (hval 0 22 v0 rfl rfl) h0
  obtain ⟨s1, rfl⟩ := okWide_string Try.underlying9 (hval 1 9 v1 rfl rfl)
  obtain ⟨s2, rfl⟩ := okWide_string Try.underlying9 (hval 2 9 v2 rfl rfl)
  refine Calls.mono (moves_spec (s := s1.data.toList) (t := s2.data.toList) (RR := fun v W' => v = .bool true ∧ Below W.heap.size W W') x0 (fun o ho => (e0m o ho).1) fun w' hw => ⟨rfl, hw⟩) ?_
  rintro e W' ⟨v, rfl, rfl, hb⟩
  exact ⟨_, rfl, post_true (tb := 4) hW' diskMoves_laid (by kernel_rfl) rfl (by kernel_rfl) Try.underlying4 rfl hb⟩

theorem diskMoves_holds : Rows.DiskMovesSaid :=
  OpenClaim.holds_of_wide 4 Try.f4 rfl rfl rfl rfl rfl rfl rfl ⟨rfl, rfl, rfl, rfl, rfl⟩ rfl rfl rfl rfl rfl (by kernel_rfl) Try.func4 (by kernel_rfl)
    (of_decide_eq_true (by kernel_rfl)) (by unfold Func.isWrapper; first | (rw [if_pos (by decide +kernel)]; kernel_rfl) | (rw [if_neg (by decide +kernel)]; exact ⟨rfl, rfl⟩))
    (fun os started H enc _ => diskMoves_lifted os started H enc)

#print axioms diskMoves_holds
end Go.Proofs.Ytdoopdbfajgnjaa
