/-
  NumSums: the statement, proved for every argument: it returns true, and the arguments read as they did.
-/
import Derived.Test.YtknbnfpdcbpoeaaDoorCards
import Derived.Test.YtknbnfpdcbpoeaaDoorTie
import Derived.Test.YtknbnfpdcbpoeaaDoorEzRow
import Derived.Lay
import Derived.LaidMore
import Derived.LaidOnce
import Derived.SevenTiedAt
import Derived.PinnedBridge
import Derived.Stop.Joined
import Derived.Test.YtknbnfpdcbpoeaaDoorNuR
import Derived.Test.YtknbnfpdcbpoeaaDoorNuE
namespace Go.Proofs.YtknbnfpdcbpoeaaDoor
open Go Go.Ez Go.RowKit Go.ChangeShapes Go.WideShapes Go.ChangeAt
set_option linter.unusedVariables false

theorem numSums_knob : ownKnob Tryd.prog.godebug = none := by kernel_rfl
theorem numSums_laid : laidOutB Tryd.prog = true := by kernel_rfl

set_option maxRecDepth 100000 in
theorem numSums_lifted (os : Os) (started : os.Started) (H : Type) (enc : TypeId × Value → H) :
    ReturnsInHanded Rows.numSumsRow.assume Tryd.checked os 5 .any (fun w args => (Rows.numSumsSpec.pre enc Tryd.prog Tryd.f5 Rows.numSumsRow.domain false w args ∧ laidMetH Tryd.prog Rows.numSumsRow.laid w) ∧ sizedMet enc Tryd.prog Tryd.f5 (OpenSpec.ofChange Rows.numSumsSpec) false w args)
      (Rows.numSumsSpec.post enc Tryd.prog Tryd.f5 false true false false) := by
  refine returnsInHanded_of_change_and (C := Tryd.checked) (X := fun w _ => laidMetH Tryd.prog Rows.numSumsRow.laid w) (fun _ _ _ hh h => h.of_heap hh) numSums_knob started (by kernel_rfl) Tryd.func5
    (ChangeSpec.witness_shaped (enc := enc) (C := Tryd.checked) (os := os) (X := fun w _ => laidMetH Tryd.prog Rows.numSumsRow.laid w) false (World.laidAll Tryd.prog os Rows.numSumsRow.laid) #[.slice none 0 0, .slice none 0 0, .slice none 0 0, .int .i64 0, .int .u8 0] 8 (World.laidAll_os _ _ _)
      (World.shaped_of_ZipB (by kernel_rfl) (by kernel_rfl)) (by kernel_rfl) (by kernel_rfl) (by kernel_rfl)
      (by rw [MakeChecks.laidMetH_plain _ _ _ (by kernel_rfl)]; exact laidMet_laidAll _ (by kernel_rfl) (by kernel_rfl))) ?_
  intro W base args ds gs before hval0 hW hcnd _ hL _
  have hval : ∀ (j : Nat) t v, Tryd.f5.params[j]? = some t → args[j]? = some v → Value.okWide Tryd.prog W .any base t v := hval0
  have hW' := hW
  obtain ⟨p, q, hA0, hV, rfl, hfz, hnd⟩ := hW
  have hA : DataW.TrodAll enc Tryd.prog W 0 (fun _ => true) true Tryd.f5.params.toList args.toList ds p := hA0
  rw [Tryd.params5] at hA hval
  obtain ⟨v0, vs0, d0, ds0, p0, q0, e0, rfl, rfl, h0, hA1⟩ := trodAll_cons hA
  obtain ⟨v1, vs1, d1, ds1, p1, q1, rfl, rfl, rfl, h1, hA2⟩ := trodAll_cons hA1
  obtain ⟨v2, vs2, d2, ds2, p2, q2, rfl, rfl, rfl, h2, hA3⟩ := trodAll_cons hA2
  obtain ⟨v3, vs3, d3, ds3, p3, q3, rfl, rfl, rfl, h3, hA4⟩ := trodAll_cons hA3
  obtain ⟨v4, vs4, d4, ds4, p4, q4, rfl, rfl, rfl, h4, hA5⟩ := trodAll_cons hA4
  obtain ⟨rfl, rfl, rfl⟩ := trodAll_nil hA5
  obtain ⟨rfl, rfl⟩ := trodVars_none hV
  have eargs : args = #[v0, v1, v2, v3, v4] := by rw [← Array.toArray_toList (xs := args), e0]
  subst eargs
  obtain ⟨l0, x0, m0⟩ := by_of_trod Tryd.underlying25 Tryd.underlying5 (by kernel_rfl) (hval 0 25 v0 rfl rfl) h0
  obtain ⟨l1, x1, m1⟩ := by_of_trod Tryd.underlying25 Tryd.underlying5 (by kernel_rfl) (hval 1 25 v1 rfl rfl) h1
  obtain ⟨l2, x2, m2⟩ := by_of_trod Tryd.underlying25 Tryd.underlying5 (by kernel_rfl) (hval 2 25 v2 rfl rfl) h2
  obtain ⟨n3, rfl, rfl, rfl, f3⟩ := open_int Tryd.underlying3 (hval 3 3 v3 rfl rfl) h3
  obtain ⟨n4, rfl, rfl, rfl, f4⟩ := open_int Tryd.underlying5 (hval 4 5 v4 rfl rfl) h4
  rw [MakeChecks.laidMetH_plain _ _ _ (by kernel_rfl)] at hL
  have hT : PowTab W := powTab_of ((show Rows.laid_internal_strconv_uint64pow10 = Go.Lib.tabData .u64 Go.Lib.pow10Tab by kernel_rfl) ▸ Go.Lib.laidMet.reads hL (.tail _ (.tail _ (.head _))))
  obtain ⟨y4, rfl⟩ := wf_u8 f4
  refine Calls.mono (sums_spec (RR := fun v W' => v = .bool true ∧ Below W.heap.size W W') hT (St.start W) x0 x1 x2 fun w' hw => ⟨rfl, hw.low⟩) ?_
  rintro e W' ⟨v, rfl, rfl, hb⟩
  exact ⟨_, rfl, post_true (tb := 4) hW' numSums_laid (by kernel_rfl) rfl (by kernel_rfl) Tryd.underlying4 rfl hb⟩

theorem numSums_row : Rows.NumSumsSaid :=
  OpenClaim.holds_of_wide 5 Tryd.f5 rfl rfl rfl rfl rfl rfl rfl ⟨rfl, rfl, rfl, rfl, rfl⟩ rfl rfl rfl rfl rfl (by kernel_rfl) Tryd.func5 (by kernel_rfl)
    (of_decide_eq_true (by kernel_rfl)) (by unfold Func.isWrapper; first | (rw [if_pos (by decide +kernel)]; kernel_rfl) | (rw [if_neg (by decide +kernel)]; exact ⟨rfl, rfl⟩))
    (fun os started H enc _ => numSums_lifted os started H enc)

theorem numSums_holds : Rows.NumSumsCardSaid :=
  Claim7.holds_tied_plain_at .later [] [.data, .data, .data] true (true, "280924fe4335078f78a79916ab7aed11b17b226f8957d6f5c74aca593e8ebe43") false numSums_row (fun _ h => by cases h) (by kernel_rfl) (fun _ h => by cases h) numSums_row_tie rfl ⟨rfl, rfl⟩ (by kernel_rfl) rfl
    (fun f fn hf hfn => by
      obtain rfl : f = 5 := Option.some.inj ((show Tryd.prog.funcNamed "handbill/hbllaw1.NumSums" = some 5 by kernel_rfl).symm.trans hf) |>.symm
      obtain rfl : fn = Tryd.f5 := (Option.some.inj (Tryd.func5.symm.trans hfn)).symm
      exact ⟨by kernel_rfl, fun j t ht => by
        rw [Tryd.params5] at ht
        have hm : t ∈ [25, 3, 5] := by
          have := Array.mem_of_getElem? ht
          simpa using this
        have hall : ([25, 3, 5].all fun u => !Tryd.prog.wantsStandIn u) = true := by kernel_rfl
        exact (show Tryd.prog.wantsStandIn t = false by simpa using List.all_eq_true.1 hall t hm)⟩)
    (by kernel_rfl)

#print axioms numSums_holds
end Go.Proofs.YtknbnfpdcbpoeaaDoor
