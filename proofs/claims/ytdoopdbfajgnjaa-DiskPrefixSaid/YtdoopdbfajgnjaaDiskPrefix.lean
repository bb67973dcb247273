/-
  DiskPrefix: the statement, proved for every argument: it returns true, and the arguments read as they did.
-/
import Derived.Test.YtdoopdbfajgnjaaRows
import Derived.Test.YtdoopdbfajgnjaaEzRow
import Derived.Test.YtdoopdbfajgnjaaEzRow2
import Derived.Test.YtdoopdbfajgnjaaDkK
import Derived.Test.YtdoopdbfajgnjaaDkRow
namespace Go.Proofs.Ytdoopdbfajgnjaa
open Go Go.Ez Go.RowKit Go.ChangeShapes Go.WideShapes
set_option linter.unusedVariables false

theorem diskPrefix_knob : ownKnob Try.prog.godebug = none := by kernel_rfl
theorem diskPrefix_laid : laidOutB Try.prog = true := by kernel_rfl

set_option maxRecDepth 100000 in
theorem diskPrefix_lifted (os : Os) (started : os.Started) (H : Type) (enc : TypeId × Value → H) :
    ReturnsInHanded Rows.diskPrefixRow.assume Try.checked os 5 .any (Rows.diskPrefixSpec.pre6 enc Try.prog Try.f5 Rows.diskPrefixRow.domain false) (Rows.diskPrefixSpec.post enc Try.prog Try.f5 false true false false) := by
  refine returnsInHanded_of_change (C := Try.checked) diskPrefix_knob started (by kernel_rfl) Try.func5
    (ChangeSpec.witness6 (enc := enc) (C := Try.checked) false ⟨#[], #[.slice none 0 0, .slice none 0 0, .int .i64 0, .int .i64 0], []⟩ 8 (by kernel_rfl) (by kernel_rfl) (by kernel_rfl) (by kernel_rfl)) ?_
  intro W base args ds gs before hval0 hW hcnd _
  have hval : ∀ (j : Nat) t v, Try.f5.params[j]? = some t → args[j]? = some v → Value.okWide Try.prog W .any base t v := hval0
  have hW' := hW
  obtain ⟨p, q, hA0, hV, rfl, hfz, hnd⟩ := hW
  have hA : DataW.TrodAll enc Try.prog W 0 (fun _ => true) true Try.f5.params.toList args.toList ds p := hA0
  rw [Try.params5] at hA hval
  obtain ⟨v0, vs0, d0, ds0, p0, q0, e0, rfl, rfl, h0, hA1⟩ := trodAll_cons hA
  obtain ⟨v1, vs1, d1, ds1, p1, q1, rfl, rfl, rfl, h1, hA2⟩ := trodAll_cons hA1
  obtain ⟨v2, vs2, d2, ds2, p2, q2, rfl, rfl, rfl, h2, hA3⟩ := trodAll_cons hA2
  obtain ⟨v3, vs3, d3, ds3, p3, q3, rfl, rfl, rfl, h3, hA4⟩ := trodAll_cons hA3
  obtain ⟨rfl, rfl, rfl⟩ := trodAll_nil hA4
  obtain ⟨rfl, rfl⟩ := trodVars_none hV
  have eargs : args = #[v0, v1, v2, v3] := by rw [← Array.toArray_toList (xs := args), e0]
  subst eargs
  obtain ⟨l0, x0, m0, e0m⟩ := ops_of_trod (hval 0 22 v0 rfl rfl) h0
  obtain ⟨l1, x1, m1, e1m⟩ := ops_of_trod (hval 1 22 v1 rfl rfl) h1
  obtain ⟨n2, rfl, rfl, rfl, f2⟩ := open_int Try.underlying3 (hval 2 3 v2 rfl rfl) h2
  obtain ⟨n3, rfl, rfl, rfl, f3⟩ := open_int Try.underlying3 (hval 3 3 v3 rfl rfl) h3
  refine Calls.mono (prefix_spec (RR := fun v W' => v = .bool true ∧ Below W.heap.size W W') x0 (fun o ho => (e0m o ho).1) x1 (fun o ho => (e1m o ho).1) fun w' hw => ⟨rfl, hw⟩) ?_
  rintro e W' ⟨v, rfl, rfl, hb⟩
  exact ⟨_, rfl, post_true (tb := 4) hW' diskPrefix_laid (by kernel_rfl) rfl (by kernel_rfl) Try.underlying4 rfl hb⟩

theorem diskPrefix_holds : Rows.DiskPrefixSaid :=
  OpenClaim.holds_of_wide 5 Try.f5 rfl rfl rfl rfl rfl rfl rfl ⟨rfl, rfl, rfl, rfl, rfl⟩ rfl rfl rfl rfl rfl (by kernel_rfl) Try.func5 (by kernel_rfl)
    (of_decide_eq_true (by kernel_rfl)) (by unfold Func.isWrapper; first | (rw [if_pos (by decide +kernel)]; kernel_rfl) | (rw [if_neg (by decide +kernel)]; exact ⟨rfl, rfl⟩))
    (fun os started H enc _ => diskPrefix_lifted os started H enc)

#print axioms diskPrefix_holds
end Go.Proofs.Ytdoopdbfajgnjaa
